/- The functions that FnWords reaches as Lean functions, each with its contract: laid by a program of this session (wip/print2.py) over the kit's print. -/
import Derived.Test.YtnchbgiojdijbaaPFnWordsx0
import Derived.Test.YtnchbgiojdijbaaPFnWordsx1
import Derived.Test.YtnchbgiojdijbaaPFnWordsx2
import Derived.Test.YtnchbgiojdijbaaPFnWordsx3
import Derived.Test.YtnchbgiojdijbaaPFnWordsx6
import Derived.Test.YtnchbgiojdijbaaPFnWordsx8
namespace Go.Proofs.Ytnchbgiojdijbaa.PFnWords
open Go.RowKit Go.Proofs.YtnchbgiojdijbaaW.PrintWords Go.Proofs.YtnchbgiojdijbaaW.PrintLast Go.Proofs.YtnchbgiojdijbaaW.PrintMore
attribute [local go_sem] max2_int min2_int max_two min_two max_three min_three max_four min_four   -- for this text's walks alone
set_option linter.unusedVariables false
set_option linter.unusedSimpArgs false

attribute [local go_sem high] eqA27
/-! ### laws_FnWords: function 3 -/
mutual
def laws_FnWords.j0 : Nat → ByteArray → List (S31) → Bool → Int → Int → Option (Bool)
  | 0, _, _, _, _, _ => none
  | k + 1, x3, x4, x39, x273000, x273001 => if x39 = true then (some false) else (if x273000 = 0 then (laws_FnWords.l0 k x3 x4 (([] : List Int)) 0) else (some ((x4.length : Int) == 0)))
def laws_FnWords.l0 : Nat → ByteArray → List (S31) → List Int → Int → Option (Bool)
  | 0, _, _, _, _ => none
  | k + 1, x3, x4, x8, x9 => if (wrap64 (x9 + 1)) < (x4.length : Int) then (if 0 ≤ x9 then (if x9 < (x4.length : Int) then (if ((rd_T31 x4 x9).f3) < 0 then (laws_FnWords.j2 k x3 x4 x8 x9 true ((rd_T31 x4 x9).f0) ((rd_T31 x4 x9).f1) ((rd_T31 x4 x9).f2) ((rd_T31 x4 x9).f3)) else (if ((rd_T31 x4 x9).f3) ≥ (x3.size : Int) then (laws_FnWords.j2 k x3 x4 x8 x9 true ((rd_T31 x4 x9).f0) ((rd_T31 x4 x9).f1) ((rd_T31 x4 x9).f2) ((rd_T31 x4 x9).f3)) else (if x9 > 0 then (if 0 ≤ (wrap64 (x9 - 1)) then (if (wrap64 (x9 - 1)) < (x4.length : Int) then (laws_FnWords.j2 k x3 x4 x8 x9 (decide (((rd_T31 x4 (wrap64 (x9 - 1))).f3) ≥ ((rd_T31 x4 x9).f3))) ((rd_T31 x4 x9).f0) ((rd_T31 x4 x9).f1) ((rd_T31 x4 x9).f2) ((rd_T31 x4 x9).f3)) else (none)) else (none)) else (laws_FnWords.j2 k x3 x4 x8 x9 false ((rd_T31 x4 x9).f0) ((rd_T31 x4 x9).f1) ((rd_T31 x4 x9).f2) ((rd_T31 x4 x9).f3))))) else (none)) else (none)) else ((impl_Lex.f k (strOfNums x8)).bind fun bt310 => (if bt310.2.1 = 0 then (if (bt310.1.length : Int) = (x4.length : Int) then (laws_FnWords.l3 k x4 bt310.1 0) else (some false)) else (some (bt310.2.1 == 14))))
def laws_FnWords.j2 : Nat → ByteArray → List (S31) → List Int → Int → Bool → Int → ByteArray → Int → Int → Option (Bool)
  | 0, _, _, _, _, _, _, _, _, _ => none
  | k + 1, x3, x4, x8, x9, x82, x284000, x284001, x284002, x284003 => if x82 = true then (some false) else (if 0 ≤ (wrap64 (x9 + 1)) then (if (wrap64 (x9 + 1)) < (x4.length : Int) then (laws_FnWords.l1 k x3 x4 x8 x9 ((rd_T31 x4 (wrap64 (x9 + 1))).f3) x284000 x284001 x284002 x284003) else (none)) else (none))
def laws_FnWords.j4 : Nat → ByteArray → List (S31) → List Int → Int → Int → ByteArray → Int → Int → Option (Bool)
  | 0, _, _, _, _, _, _, _, _ => none
  | k + 1, x3, x4, x8, x9, x284000, x284001, x284002, x284003 => if x284000 = 2 then (laws_FnWords.l2 k x3 x4 x8 x9 x284003 x284000 x284001 x284002 x284003) else (if x8.length + x284001.size < 140737488355328 then ((some (x8 ++ bytesOf x284001 : List Int)).bind fun y304 => (if y304.length < 140737488355328 then (laws_FnWords.l0 k x3 x4 (y304 ++ [32]) (wrap64 (x9 + 1))) else (none))) else (none))
def laws_FnWords.l2 : Nat → ByteArray → List (S31) → List Int → Int → Int → Int → ByteArray → Int → Int → Option (Bool)
  | 0, _, _, _, _, _, _, _, _, _ => none
  | k + 1, x3, x4, x8, x9, x12, x284000, x284001, x284002, x284003 => if x12 < (x3.size : Int) then (if 0 ≤ x12 then (if (bt x3 x12) ≥ 48 then (if (bt x3 x12) ≤ 57 then (laws_FnWords.l2 k x3 x4 x8 x9 (wrap64 (x12 + 1)) x284000 x284001 x284002 x284003) else (if 0 ≤ x284003 then (if x284003 ≤ x12 then (if x12 ≤ (x3.size : Int) then (if x8.length + (x3.extract (x284003 : Int).toNat (x12 : Int).toNat).size < 140737488355328 then ((some (x8 ++ bytesOf (x3.extract (x284003 : Int).toNat (x12 : Int).toNat) : List Int)).bind fun y286 => (if y286.length < 140737488355328 then (laws_FnWords.l0 k x3 x4 (y286 ++ [32]) (wrap64 (x9 + 1))) else (none))) else (none)) else (none)) else (none)) else (none))) else (if 0 ≤ x284003 then (if x284003 ≤ x12 then (if x12 ≤ (x3.size : Int) then (if x8.length + (x3.extract (x284003 : Int).toNat (x12 : Int).toNat).size < 140737488355328 then ((some (x8 ++ bytesOf (x3.extract (x284003 : Int).toNat (x12 : Int).toNat) : List Int)).bind fun y292 => (if y292.length < 140737488355328 then (laws_FnWords.l0 k x3 x4 (y292 ++ [32]) (wrap64 (x9 + 1))) else (none))) else (none)) else (none)) else (none)) else (none))) else (none)) else (if 0 ≤ x284003 then (if x284003 ≤ x12 then (if x12 ≤ (x3.size : Int) then (if x8.length + (x3.extract (x284003 : Int).toNat (x12 : Int).toNat).size < 140737488355328 then ((some (x8 ++ bytesOf (x3.extract (x284003 : Int).toNat (x12 : Int).toNat) : List Int)).bind fun y298 => (if y298.length < 140737488355328 then (laws_FnWords.l0 k x3 x4 (y298 ++ [32]) (wrap64 (x9 + 1))) else (none))) else (none)) else (none)) else (none)) else (none))
def laws_FnWords.l1 : Nat → ByteArray → List (S31) → List Int → Int → Int → Int → ByteArray → Int → Int → Option (Bool)
  | 0, _, _, _, _, _, _, _, _, _ => none
  | k + 1, x3, x4, x8, x9, x11, x284000, x284001, x284002, x284003 => if x11 > x284003 then (if 0 ≤ (wrap64 (x11 - 1)) then (if (wrap64 (x11 - 1)) < (x3.size : Int) then (if (bt x3 (wrap64 (x11 - 1))) = 32 then (laws_FnWords.l1 k x3 x4 x8 x9 (wrap64 (x11 - 1)) x284000 x284001 x284002 x284003) else (if (bt x3 (wrap64 (x11 - 1))) = 9 then (laws_FnWords.l1 k x3 x4 x8 x9 (wrap64 (x11 - 1)) x284000 x284001 x284002 x284003) else (if (bt x3 (wrap64 (x11 - 1))) = 10 then (laws_FnWords.l1 k x3 x4 x8 x9 (wrap64 (x11 - 1)) x284000 x284001 x284002 x284003) else (laws_FnWords.j4 k x3 x4 x8 x9 x284000 x284001 x284002 x284003)))) else (none)) else (none)) else (laws_FnWords.j4 k x3 x4 x8 x9 x284000 x284001 x284002 x284003)
def laws_FnWords.l3 : Nat → List (S31) → List (S31) → Int → Option (Bool)
  | 0, _, _, _ => none
  | k + 1, x4, x13, x15 => if x15 < (x4.length : Int) then (if 0 ≤ x15 then (if x15 < (x13.length : Int) then (if ((rd_T31 x13 x15).f0) = ((rd_T31 x4 x15).f0) then (if ((rd_T31 x13 x15).f1).toList = ((rd_T31 x4 x15).f1).toList then (if ((rd_T31 x13 x15).f2) = ((rd_T31 x4 x15).f2) then (laws_FnWords.l3 k x4 x13 (wrap64 (x15 + 1))) else (some false)) else (some false)) else (some false)) else (none)) else (none)) else (some true)
end
def laws_FnWords.f (k : Nat) (l0 : List Int) : Option (Bool) := (laws_big.f l0).bind fun t265 => (if t265 = true then (some true) else ((spec_DrawLex.f k l0).bind fun t266 => ((impl_Lex.f k t266).bind fun bt267 => ((spec_Lex.f k t266).bind fun bt273 => (if (!(bt267.2.1 == bt273.2.1) || (!(bt267.2.2 == bt273.2.2))) = true then (laws_FnWords.j0 k t266 bt267.1 true bt267.2.1 bt267.2.2) else (laws_FnWords.j0 k t266 bt267.1 ((bt267.1.length : Int) != (bt273.1.length : Int)) bt267.2.1 bt267.2.2))))))
theorem laws_FnWords.mono_l : ∀ k, (∀ y0 y1 y2 y3 y4, LeO (laws_FnWords.j0 k y0 y1 y2 y3 y4) (laws_FnWords.j0 (k + 1) y0 y1 y2 y3 y4)) ∧ (∀ y0 y1 y2 y3, LeO (laws_FnWords.l0 k y0 y1 y2 y3) (laws_FnWords.l0 (k + 1) y0 y1 y2 y3)) ∧ (∀ y0 y1 y2 y3 y4 y5 y6 y7 y8, LeO (laws_FnWords.j2 k y0 y1 y2 y3 y4 y5 y6 y7 y8) (laws_FnWords.j2 (k + 1) y0 y1 y2 y3 y4 y5 y6 y7 y8)) ∧ (∀ y0 y1 y2 y3 y4 y5 y6 y7, LeO (laws_FnWords.j4 k y0 y1 y2 y3 y4 y5 y6 y7) (laws_FnWords.j4 (k + 1) y0 y1 y2 y3 y4 y5 y6 y7)) ∧ (∀ y0 y1 y2 y3 y4 y5 y6 y7 y8, LeO (laws_FnWords.l2 k y0 y1 y2 y3 y4 y5 y6 y7 y8) (laws_FnWords.l2 (k + 1) y0 y1 y2 y3 y4 y5 y6 y7 y8)) ∧ (∀ y0 y1 y2 y3 y4 y5 y6 y7 y8, LeO (laws_FnWords.l1 k y0 y1 y2 y3 y4 y5 y6 y7 y8) (laws_FnWords.l1 (k + 1) y0 y1 y2 y3 y4 y5 y6 y7 y8)) ∧ (∀ y0 y1 y2, LeO (laws_FnWords.l3 k y0 y1 y2) (laws_FnWords.l3 (k + 1) y0 y1 y2))
  | 0 => ⟨fun _ _ _ _ _ r h => by simp [laws_FnWords.j0] at h, fun _ _ _ _ r h => by simp [laws_FnWords.l0] at h, fun _ _ _ _ _ _ _ _ _ r h => by simp [laws_FnWords.j2] at h, fun _ _ _ _ _ _ _ _ r h => by simp [laws_FnWords.j4] at h, fun _ _ _ _ _ _ _ _ _ r h => by simp [laws_FnWords.l2] at h, fun _ _ _ _ _ _ _ _ _ r h => by simp [laws_FnWords.l1] at h, fun _ _ _ r h => by simp [laws_FnWords.l3] at h⟩
  | k + 1 => by
    obtain ⟨ih0, ih1, ih2, ih3, ih4, ih5, ih6⟩ := laws_FnWords.mono_l k
    refine ⟨?_, ?_, ?_, ?_, ?_, ?_, ?_⟩
    · intro y0 y1 y2 y3 y4
      unfold laws_FnWords.j0
      repeat' first
      | (with_reducible exact ih0 _ _ _ _ _)
      | (with_reducible exact ih1 _ _ _ _)
      | (with_reducible exact ih2 _ _ _ _ _ _ _ _ _)
      | (with_reducible exact ih3 _ _ _ _ _ _ _ _)
      | (with_reducible exact ih4 _ _ _ _ _ _ _ _ _)
      | (with_reducible exact ih5 _ _ _ _ _ _ _ _ _)
      | (with_reducible exact ih6 _ _ _)
      | (with_reducible exact impl_Lex.mono _ _)
      | (with_reducible exact spec_DrawLex.mono _ _)
      | (with_reducible exact spec_Lex.mono _ _)
      | (with_reducible exact LeO.refl _)
      | (with_reducible exact LeO.none _)
      | (with_reducible refine LeO.ite ?_ ?_)
      | (with_reducible refine LeO.bind ?_ (fun _ => ?_))
      | exact ih0 _ _ _ _ _
      | exact ih1 _ _ _ _
      | exact ih2 _ _ _ _ _ _ _ _ _
      | exact ih3 _ _ _ _ _ _ _ _
      | exact ih4 _ _ _ _ _ _ _ _ _
      | exact ih5 _ _ _ _ _ _ _ _ _
      | exact ih6 _ _ _
      | exact impl_Lex.mono _ _
      | exact spec_DrawLex.mono _ _
      | exact spec_Lex.mono _ _
      | exact LeO.none _
      | refine LeO.ite ?_ ?_
      | refine LeO.bind ?_ (fun _ => ?_)
    · intro y0 y1 y2 y3
      unfold laws_FnWords.l0
      repeat' first
      | (with_reducible exact ih0 _ _ _ _ _)
      | (with_reducible exact ih1 _ _ _ _)
      | (with_reducible exact ih2 _ _ _ _ _ _ _ _ _)
      | (with_reducible exact ih3 _ _ _ _ _ _ _ _)
      | (with_reducible exact ih4 _ _ _ _ _ _ _ _ _)
      | (with_reducible exact ih5 _ _ _ _ _ _ _ _ _)
      | (with_reducible exact ih6 _ _ _)
      | (with_reducible exact impl_Lex.mono _ _)
      | (with_reducible exact spec_DrawLex.mono _ _)
      | (with_reducible exact spec_Lex.mono _ _)
      | (with_reducible exact LeO.refl _)
      | (with_reducible exact LeO.none _)
      | (with_reducible refine LeO.ite ?_ ?_)
      | (with_reducible refine LeO.bind ?_ (fun _ => ?_))
      | exact ih0 _ _ _ _ _
      | exact ih1 _ _ _ _
      | exact ih2 _ _ _ _ _ _ _ _ _
      | exact ih3 _ _ _ _ _ _ _ _
      | exact ih4 _ _ _ _ _ _ _ _ _
      | exact ih5 _ _ _ _ _ _ _ _ _
      | exact ih6 _ _ _
      | exact impl_Lex.mono _ _
      | exact spec_DrawLex.mono _ _
      | exact spec_Lex.mono _ _
      | exact LeO.none _
      | refine LeO.ite ?_ ?_
      | refine LeO.bind ?_ (fun _ => ?_)
    · intro y0 y1 y2 y3 y4 y5 y6 y7 y8
      unfold laws_FnWords.j2
      repeat' first
      | (with_reducible exact ih0 _ _ _ _ _)
      | (with_reducible exact ih1 _ _ _ _)
      | (with_reducible exact ih2 _ _ _ _ _ _ _ _ _)
      | (with_reducible exact ih3 _ _ _ _ _ _ _ _)
      | (with_reducible exact ih4 _ _ _ _ _ _ _ _ _)
      | (with_reducible exact ih5 _ _ _ _ _ _ _ _ _)
      | (with_reducible exact ih6 _ _ _)
      | (with_reducible exact impl_Lex.mono _ _)
      | (with_reducible exact spec_DrawLex.mono _ _)
      | (with_reducible exact spec_Lex.mono _ _)
      | (with_reducible exact LeO.refl _)
      | (with_reducible exact LeO.none _)
      | (with_reducible refine LeO.ite ?_ ?_)
      | (with_reducible refine LeO.bind ?_ (fun _ => ?_))
      | exact ih0 _ _ _ _ _
      | exact ih1 _ _ _ _
      | exact ih2 _ _ _ _ _ _ _ _ _
      | exact ih3 _ _ _ _ _ _ _ _
      | exact ih4 _ _ _ _ _ _ _ _ _
      | exact ih5 _ _ _ _ _ _ _ _ _
      | exact ih6 _ _ _
      | exact impl_Lex.mono _ _
      | exact spec_DrawLex.mono _ _
      | exact spec_Lex.mono _ _
      | exact LeO.none _
      | refine LeO.ite ?_ ?_
      | refine LeO.bind ?_ (fun _ => ?_)
    · intro y0 y1 y2 y3 y4 y5 y6 y7
      unfold laws_FnWords.j4
      repeat' first
      | (with_reducible exact ih0 _ _ _ _ _)
      | (with_reducible exact ih1 _ _ _ _)
      | (with_reducible exact ih2 _ _ _ _ _ _ _ _ _)
      | (with_reducible exact ih3 _ _ _ _ _ _ _ _)
      | (with_reducible exact ih4 _ _ _ _ _ _ _ _ _)
      | (with_reducible exact ih5 _ _ _ _ _ _ _ _ _)
      | (with_reducible exact ih6 _ _ _)
      | (with_reducible exact impl_Lex.mono _ _)
      | (with_reducible exact spec_DrawLex.mono _ _)
      | (with_reducible exact spec_Lex.mono _ _)
      | (with_reducible exact LeO.refl _)
      | (with_reducible exact LeO.none _)
      | (with_reducible refine LeO.ite ?_ ?_)
      | (with_reducible refine LeO.bind ?_ (fun _ => ?_))
      | exact ih0 _ _ _ _ _
      | exact ih1 _ _ _ _
      | exact ih2 _ _ _ _ _ _ _ _ _
      | exact ih3 _ _ _ _ _ _ _ _
      | exact ih4 _ _ _ _ _ _ _ _ _
      | exact ih5 _ _ _ _ _ _ _ _ _
      | exact ih6 _ _ _
      | exact impl_Lex.mono _ _
      | exact spec_DrawLex.mono _ _
      | exact spec_Lex.mono _ _
      | exact LeO.none _
      | refine LeO.ite ?_ ?_
      | refine LeO.bind ?_ (fun _ => ?_)
    · intro y0 y1 y2 y3 y4 y5 y6 y7 y8
      unfold laws_FnWords.l2
      repeat' first
      | (with_reducible exact ih0 _ _ _ _ _)
      | (with_reducible exact ih1 _ _ _ _)
      | (with_reducible exact ih2 _ _ _ _ _ _ _ _ _)
      | (with_reducible exact ih3 _ _ _ _ _ _ _ _)
      | (with_reducible exact ih4 _ _ _ _ _ _ _ _ _)
      | (with_reducible exact ih5 _ _ _ _ _ _ _ _ _)
      | (with_reducible exact ih6 _ _ _)
      | (with_reducible exact impl_Lex.mono _ _)
      | (with_reducible exact spec_DrawLex.mono _ _)
      | (with_reducible exact spec_Lex.mono _ _)
      | (with_reducible exact LeO.refl _)
      | (with_reducible exact LeO.none _)
      | (with_reducible refine LeO.ite ?_ ?_)
      | (with_reducible refine LeO.bind ?_ (fun _ => ?_))
      | exact ih0 _ _ _ _ _
      | exact ih1 _ _ _ _
      | exact ih2 _ _ _ _ _ _ _ _ _
      | exact ih3 _ _ _ _ _ _ _ _
      | exact ih4 _ _ _ _ _ _ _ _ _
      | exact ih5 _ _ _ _ _ _ _ _ _
      | exact ih6 _ _ _
      | exact impl_Lex.mono _ _
      | exact spec_DrawLex.mono _ _
      | exact spec_Lex.mono _ _
      | exact LeO.none _
      | refine LeO.ite ?_ ?_
      | refine LeO.bind ?_ (fun _ => ?_)
    · intro y0 y1 y2 y3 y4 y5 y6 y7 y8
      unfold laws_FnWords.l1
      repeat' first
      | (with_reducible exact ih0 _ _ _ _ _)
      | (with_reducible exact ih1 _ _ _ _)
      | (with_reducible exact ih2 _ _ _ _ _ _ _ _ _)
      | (with_reducible exact ih3 _ _ _ _ _ _ _ _)
      | (with_reducible exact ih4 _ _ _ _ _ _ _ _ _)
      | (with_reducible exact ih5 _ _ _ _ _ _ _ _ _)
      | (with_reducible exact ih6 _ _ _)
      | (with_reducible exact impl_Lex.mono _ _)
      | (with_reducible exact spec_DrawLex.mono _ _)
      | (with_reducible exact spec_Lex.mono _ _)
      | (with_reducible exact LeO.refl _)
      | (with_reducible exact LeO.none _)
      | (with_reducible refine LeO.ite ?_ ?_)
      | (with_reducible refine LeO.bind ?_ (fun _ => ?_))
      | exact ih0 _ _ _ _ _
      | exact ih1 _ _ _ _
      | exact ih2 _ _ _ _ _ _ _ _ _
      | exact ih3 _ _ _ _ _ _ _ _
      | exact ih4 _ _ _ _ _ _ _ _ _
      | exact ih5 _ _ _ _ _ _ _ _ _
      | exact ih6 _ _ _
      | exact impl_Lex.mono _ _
      | exact spec_DrawLex.mono _ _
      | exact spec_Lex.mono _ _
      | exact LeO.none _
      | refine LeO.ite ?_ ?_
      | refine LeO.bind ?_ (fun _ => ?_)
    · intro y0 y1 y2
      unfold laws_FnWords.l3
      repeat' first
      | (with_reducible exact ih0 _ _ _ _ _)
      | (with_reducible exact ih1 _ _ _ _)
      | (with_reducible exact ih2 _ _ _ _ _ _ _ _ _)
      | (with_reducible exact ih3 _ _ _ _ _ _ _ _)
      | (with_reducible exact ih4 _ _ _ _ _ _ _ _ _)
      | (with_reducible exact ih5 _ _ _ _ _ _ _ _ _)
      | (with_reducible exact ih6 _ _ _)
      | (with_reducible exact impl_Lex.mono _ _)
      | (with_reducible exact spec_DrawLex.mono _ _)
      | (with_reducible exact spec_Lex.mono _ _)
      | (with_reducible exact LeO.refl _)
      | (with_reducible exact LeO.none _)
      | (with_reducible refine LeO.ite ?_ ?_)
      | (with_reducible refine LeO.bind ?_ (fun _ => ?_))
      | exact ih0 _ _ _ _ _
      | exact ih1 _ _ _ _
      | exact ih2 _ _ _ _ _ _ _ _ _
      | exact ih3 _ _ _ _ _ _ _ _
      | exact ih4 _ _ _ _ _ _ _ _ _
      | exact ih5 _ _ _ _ _ _ _ _ _
      | exact ih6 _ _ _
      | exact impl_Lex.mono _ _
      | exact spec_DrawLex.mono _ _
      | exact spec_Lex.mono _ _
      | exact LeO.none _
      | refine LeO.ite ?_ ?_
      | refine LeO.bind ?_ (fun _ => ?_)
theorem laws_FnWords.mono : ∀ a0 k, LeO (laws_FnWords.f k a0) (laws_FnWords.f (k + 1) a0) := by
  intro a0 k
  obtain ⟨ih0, ih1, ih2, ih3, ih4, ih5, ih6⟩ := laws_FnWords.mono_l k
  unfold laws_FnWords.f
  repeat' first
      | (with_reducible exact ih0 _ _ _ _ _)
      | (with_reducible exact ih1 _ _ _ _)
      | (with_reducible exact ih2 _ _ _ _ _ _ _ _ _)
      | (with_reducible exact ih3 _ _ _ _ _ _ _ _)
      | (with_reducible exact ih4 _ _ _ _ _ _ _ _ _)
      | (with_reducible exact ih5 _ _ _ _ _ _ _ _ _)
      | (with_reducible exact ih6 _ _ _)
      | (with_reducible exact impl_Lex.mono _ _)
      | (with_reducible exact spec_DrawLex.mono _ _)
      | (with_reducible exact spec_Lex.mono _ _)
      | (with_reducible exact LeO.refl _)
      | (with_reducible exact LeO.none _)
      | (with_reducible refine LeO.ite ?_ ?_)
      | (with_reducible refine LeO.bind ?_ (fun _ => ?_))
      | exact ih0 _ _ _ _ _
      | exact ih1 _ _ _ _
      | exact ih2 _ _ _ _ _ _ _ _ _
      | exact ih3 _ _ _ _ _ _ _ _
      | exact ih4 _ _ _ _ _ _ _ _ _
      | exact ih5 _ _ _ _ _ _ _ _ _
      | exact ih6 _ _ _
      | exact impl_Lex.mono _ _
      | exact spec_DrawLex.mono _ _
      | exact spec_Lex.mono _ _
      | exact LeO.none _
      | refine LeO.ite ?_ ?_
      | refine LeO.bind ?_ (fun _ => ?_)
theorem z3q1 {p : Prop} (h : p := by repeat (first | (with_reducible first | exact HB.out | apply below_alloc | apply pw_below_drewN | apply below_drew1 | refine below_set ?_ GE272.out | refine below_set ?_ GE278.out) | exact HB.out)) : p := h
theorem z3q2 {p : Prop} (h : p := by repeat (first | (with_reducible first | exact HB.out | apply below_alloc | apply pw_below_drewN | apply below_drew1 | refine below_set ?_ GE272.out | refine below_set ?_ GE278.out | refine below_set ?_ GE283.out) | exact HB.out)) : p := h
theorem z3q3 {p : Prop} (h : p := by (with_reducible repeat (first | refine blk_drewN ?_ _ | refine blk_drew ?_ | refine blk_alloc ?_ _)); exact BK272.out) : p := h
theorem z3q4 {p : Prop} (h : p := by (with_reducible repeat (first | refine blk_drewN ?_ _ | refine blk_drew ?_ | refine blk_alloc ?_ _)); exact BK278.out) : p := h
theorem z3q5 {p : Prop} (h : p := by (with_reducible repeat (first | apply Kd.R_alloc | apply Kd.R_drewN | apply Kd.R_drew)); exact HO_4.out) : p := h
theorem z3q6 {p : Prop} (h : p := by (with_reducible repeat (first | apply Kd.R_alloc | apply Kd.R_drewN | apply Kd.R_drew)); exact HO_8.out) : p := h
theorem z3q7 {p : Prop} (h : p := by first | (with_reducible assumption) | assumption) : p := h
theorem z3q8 {p : Prop} (h : p := by (with_reducible repeat (first | refine blk_drewN ?_ _ | refine blk_drew ?_ | refine blk_alloc ?_ _)); exact BK283.out) : p := h
theorem z3q9 {p : Prop} (h : p := by repeat (first | (with_reducible first | exact HB.out | apply below_alloc | apply pw_below_drewN | apply below_drew1 | refine below_set ?_ GE272.out) | exact HB.out)) : p := h
theorem z3q10 {p : Prop} (h : p := by repeat (first | (with_reducible first | exact HB.out | apply below_alloc | apply pw_below_drewN | apply below_drew1) | exact HB.out)) : p := h
theorem z3q11 {p : Prop} (h : p := by (with_reducible repeat (first | apply Kd.R_alloc | apply Kd.R_drewN | apply Kd.R_drew)); exact (Kd.R_mono (Kd.R_far (p := ⟨gb272, 1, none⟩) (Kd.R_far (p := ⟨gb272, 0, none⟩) (Kd.R_types HO269.out BK272.out (by decide)) (fun _ hk => hk.2) (.int .i64 t270)) (fun _ hk => hk.2) (.int .i64 t271)) (fun _ h_ => h_.1))) : p := h
theorem z3q12 {p : Prop} (h : p := by rw [hg]; exact Nat.ne_of_lt (blk_lt (g := gb272) (o := .cells #[.int .i64 t270, .int .i64 t271] 27 (0, 0)) z3q3)) : p := h
theorem z3q13 {p : Prop} (h : p := by rw [hg]; exact Nat.ne_of_gt (blk_lt (g := gb272) (o := .cells #[.int .i64 t270, .int .i64 t271] 27 (0, 0)) z3q3)) : p := h
theorem z3q14 {p : Prop} (h : p := by rw [hg]; exact Nat.ne_of_lt (blk_lt (g := gb278) (o := .cells #[.int .i64 t276, .int .i64 t277] 27 (0, 0)) z3q4)) : p := h
theorem z3q15 {p : Prop} (h : p := by rw [hg]; exact Nat.ne_of_gt (blk_lt (g := gb278) (o := .cells #[.int .i64 t276, .int .i64 t277] 27 (0, 0)) z3q4)) : p := h
theorem z3q16 {p : Prop} (h : p := by (with_reducible repeat (first | refine blk_drewN ?_ _ | refine blk_drew ?_ | refine blk_alloc ?_ _)); refine blk_put (cs := #[.int .i64 t270, .int .i64 0]) ?_ 1 _ rfl; (with_reducible repeat (first | refine blk_drewN ?_ _ | refine blk_drew ?_ | refine blk_alloc ?_ _)); refine blk_put (cs := #[.int .i64 0, .int .i64 0]) ?_ 0 _ rfl; (with_reducible repeat (first | refine blk_drewN ?_ _ | refine blk_drew ?_ | refine blk_alloc ?_ _)); exact BK272.out) : p := h
theorem z3q17 {p : Prop} (h : p := by (with_reducible repeat (first | apply Kd.R_alloc | apply Kd.R_drewN | apply Kd.R_drew)); exact HO312.out) : p := h
theorem z3q18 {p : Prop} (h : p := by rw [hg]; exact (below_size z3q1)) : p := h
theorem z3q19 {p : Prop} (h : p := by first | rfl | (simp; done) | (simp [*]; done)) : p := h
theorem z3q20 {p : Prop} (h : p := by (with_reducible repeat (first | apply Kd.R_alloc | apply Kd.R_drewN | apply Kd.R_drew)); exact HO306.out) : p := h
theorem z3q21 {p : Prop} (h : p := by (with_reducible repeat (first | apply Kd.R_alloc | apply Kd.R_drewN | apply Kd.R_drew)); exact HO300.out) : p := h
theorem z3q22 {p : Prop} (h : p := by (with_reducible repeat (first | apply Kd.R_alloc | apply Kd.R_drewN | apply Kd.R_drew)); exact HO294.out) : p := h
theorem z3q23 {p : Prop} (h : p := by (with_reducible repeat (first | apply Kd.R_alloc | apply Kd.R_drewN | apply Kd.R_drew)); exact HO288.out) : p := h
theorem z3q24 {p : Prop} (h : p := by (with_reducible repeat (first | apply Kd.R_alloc | apply Kd.R_drewN | apply Kd.R_drew)); exact HO269.out) : p := h
theorem z3q25 {p : Prop} (h : p := by first | exact Kd.R_ne HO_4.out BK283.out (by decide) | exact (fun he => by have z_ := HO_4.out.1 _ he.symm; first | exact z_.2 rfl | exact z_.1.2 rfl | exact z_.1.1.2 rfl)) : p := h
theorem z3q26 {p : Prop} (h : p := by first | (rw [add_block]; exact hn284_3) | (show (Addr.add _ _).block ≠ _; rw [add_block]; exact hn284_3) | exact hn284_3) : p := h
theorem z3q27 {p : Prop} (h : p := by first | (rw [add_block]; exact hn284_2) | (show (Addr.add _ _).block ≠ _; rw [add_block]; exact hn284_2) | exact hn284_2) : p := h
theorem z3q28 {p : Prop} (h : p := by first | (rw [add_block]; exact hn284_1) | (show (Addr.add _ _).block ≠ _; rw [add_block]; exact hn284_1) | exact hn284_1) : p := h
theorem z3q29 {p : Prop} (h : p := by first | (rw [add_block]; exact hn284_0) | (show (Addr.add _ _).block ≠ _; rw [add_block]; exact hn284_0) | exact hn284_0) : p := h
theorem z3q30 {p : Prop} (h : p := by (with_reducible repeat (first | apply Kd.R_alloc | apply Kd.R_drewN | apply Kd.R_drew)); exact HO275.out) : p := h
theorem z3q31 {p : Prop} (h : p := by first | rfl | (simp; done) | (simp only [← hji64] <;> (first | rfl | simp)) | (simp [*]; done)) : p := h
theorem z3q32 {p : Prop} (h : p := by rw [hg]; exact (below_size z3q10)) : p := h
theorem z3q33 {p : Prop} (h : p := by rw [hg]; exact (below_size z3q9)) : p := h
set_option maxHeartbeats 8000000 in
set_option maxRecDepth 100000 in
theorem laws_FnWords.calls (k : Nat) (A0 : Option Addr) (c0 : Nat) (l0 : List Int) (r : Bool) (w : World) (hr0 : Kd.C (Kd.int .u8) w A0 l0.length l0) (hc0 : l0.length ≤ c0) (h : laws_FnWords.f k l0 = some r) :
    Calls Try.prog 3 #[.slice A0 l0.length c0] w fun e w' => e = .returned (.bool r) ∧ Below w.heap.size w w' := by
 have hu27 := Try.underlying27
 have hu31 := Try.underlying31
 have HR0 := Aside0.mk hr0
 have HC0 := Aside0.mk hc0
 clear hr0 hc0
 have HB := Aside0.mk (Below.refl w.heap.size w)
 have H : ((laws_big.f l0).bind fun t265 => (if t265 = true then (some true) else ((spec_DrawLex.f k l0).bind fun t266 => ((impl_Lex.f k t266).bind fun bt267 => ((spec_Lex.f k t266).bind fun bt273 => (if (!(bt267.2.1 == bt273.2.1) || (!(bt267.2.2 == bt273.2.2))) = true then (laws_FnWords.j0 k t266 bt267.1 true bt267.2.1 bt267.2.2) else (laws_FnWords.j0 k t266 bt267.1 ((bt267.1.length : Int) != (bt273.1.length : Int)) bt267.2.1 bt267.2.2))))))) = some r := h
 clear h
 replace H := Option.bind_eq_some_iff.mp H
 obtain ⟨t265, A20, H⟩ := H
 replace H : (if t265 = true then (some true) else ((spec_DrawLex.f k l0).bind fun t266 => ((impl_Lex.f k t266).bind fun bt267 => ((spec_Lex.f k t266).bind fun bt273 => (if (!(bt267.2.1 == bt273.2.1) || (!(bt267.2.2 == bt273.2.2))) = true then (laws_FnWords.j0 k t266 bt267.1 true bt267.2.1 bt267.2.2) else (laws_FnWords.j0 k t266 bt267.1 ((bt267.1.length : Int) != (bt273.1.length : Int)) bt267.2.1 bt267.2.2)))))) = some r := H
 have A2 := Aside0.mk A20
 clear A20
 by_cases c3 : t265 = true
 next => as_aux_lemma =>
  subst c3
  have H1 : (some true) = some r := by rw [if_pos rfl] at H; exact H
  clear H
  have H := H1
  clear H1
  obtain rfl := Option.some.inj H
  go_enter Try.func3, Try.ntmps3
  go_wp2_with (first | (go_at_call 9; (with_reducible refine (laws_big.calls _ _ l0 true _ ?side1 ?side2 A2.out).mono ?_); (case side1 => repeat (first | exact HR0.out | (with_reducible refine Kd.C_alloc ?_ _) | (with_reducible refine Kd.C_drewN ?_ _) | (with_reducible refine Kd.C_drew ?_))); (case side2 => exact HC0.out); rintro e w' ⟨rfl, ⟨nd, rfl⟩⟩; (try first | exact ⟨rfl, _, World.drewN_drewN _ _ _⟩ | exact ⟨rfl, _, Eq.trans (World.drewN_drewN _ _ _) (congrArg (World.drewN _) (Nat.add_assoc _ _ _))⟩)))
  repeat (go_quiet (first | (go_at_call 9; (with_reducible refine (laws_big.calls _ _ l0 true _ ?side1 ?side2 A2.out).mono ?_); (case side1 => repeat (first | exact HR0.out | (with_reducible refine Kd.C_alloc ?_ _) | (with_reducible refine Kd.C_drewN ?_ _) | (with_reducible refine Kd.C_drew ?_))); (case side2 => exact HC0.out); rintro e w' ⟨rfl, ⟨nd, rfl⟩⟩; (try first | exact ⟨rfl, _, World.drewN_drewN _ _ _⟩ | exact ⟨rfl, _, Eq.trans (World.drewN_drewN _ _ _) (congrArg (World.drewN _) (Nat.add_assoc _ _ _))⟩))); try go_wp2_with (first | (go_at_call 9; (with_reducible refine (laws_big.calls _ _ l0 true _ ?side1 ?side2 A2.out).mono ?_); (case side1 => repeat (first | exact HR0.out | (with_reducible refine Kd.C_alloc ?_ _) | (with_reducible refine Kd.C_drewN ?_ _) | (with_reducible refine Kd.C_drew ?_))); (case side2 => exact HC0.out); rintro e w' ⟨rfl, ⟨nd, rfl⟩⟩; (try first | exact ⟨rfl, _, World.drewN_drewN _ _ _⟩ | exact ⟨rfl, _, Eq.trans (World.drewN_drewN _ _ _) (congrArg (World.drewN _) (Nat.add_assoc _ _ _))⟩))))
  go_ret
  exact ⟨by first | rfl | (simp [errW_none, errW_some] <;> rfl) | (simp [*, errW_none, errW_some] <;> rfl), by repeat (first | (with_reducible first | exact HB.out | apply below_alloc | apply pw_below_drewN | apply below_drew1) | exact HB.out)⟩
 next => as_aux_lemma =>
  replace c3 := Bool.eq_false_iff.mpr c3
  subst c3
  have H1 : ((spec_DrawLex.f k l0).bind fun t266 => ((impl_Lex.f k t266).bind fun bt267 => ((spec_Lex.f k t266).bind fun bt273 => (if (!(bt267.2.1 == bt273.2.1) || (!(bt267.2.2 == bt273.2.2))) = true then (laws_FnWords.j0 k t266 bt267.1 true bt267.2.1 bt267.2.2) else (laws_FnWords.j0 k t266 bt267.1 ((bt267.1.length : Int) != (bt273.1.length : Int)) bt267.2.1 bt267.2.2))))) = some r := by rw [if_neg (show ¬ (false = true) by decide)] at H; exact H
  clear H
  have H := H1
  clear H1
  replace H := Option.bind_eq_some_iff.mp H
  obtain ⟨t266, A40, H⟩ := H
  replace H : ((impl_Lex.f k t266).bind fun bt267 => ((spec_Lex.f k t266).bind fun bt273 => (if (!(bt267.2.1 == bt273.2.1) || (!(bt267.2.2 == bt273.2.2))) = true then (laws_FnWords.j0 k t266 bt267.1 true bt267.2.1 bt267.2.2) else (laws_FnWords.j0 k t266 bt267.1 ((bt267.1.length : Int) != (bt273.1.length : Int)) bt267.2.1 bt267.2.2)))) = some r := H
  have A4 := Aside0.mk A40
  clear A40
  replace H := Option.bind_eq_some_iff.mp H
  obtain ⟨⟨t267, t270, t271⟩, A50, H⟩ := H
  replace H : ((spec_Lex.f k t266).bind fun bt273 => (if (!(t270 == bt273.2.1) || (!(t271 == bt273.2.2))) = true then (laws_FnWords.j0 k t266 t267 true t270 t271) else (laws_FnWords.j0 k t266 t267 ((t267.length : Int) != (bt273.1.length : Int)) t270 t271))) = some r := H
  have A5 := Aside0.mk A50
  clear A50
  replace H := Option.bind_eq_some_iff.mp H
  obtain ⟨⟨t273, t276, t277⟩, A60, H⟩ := H
  replace H : (if (!(t270 == t276) || (!(t271 == t277))) = true then (laws_FnWords.j0 k t266 t267 true t270 t271) else (laws_FnWords.j0 k t266 t267 ((t267.length : Int) != (t273.length : Int)) t270 t271)) = some r := H
  have A6 := Aside0.mk A60
  clear A60
  have HC7 := Aside0.mk H
  clear H
  go_enter Try.func3, Try.ntmps3
  go_upto_region 6 with (first | (go_at_call 9; (with_reducible refine (laws_big.calls _ _ l0 false _ ?side1 ?side2 A2.out).mono ?_); (case side1 => repeat (first | exact HR0.out | (with_reducible refine Kd.C_alloc ?_ _) | (with_reducible refine Kd.C_drewN ?_ _) | (with_reducible refine Kd.C_drew ?_))); (case side2 => exact HC0.out); rintro e w' ⟨rfl, ⟨nd, rfl⟩⟩; (try first | exact ⟨rfl, _, World.drewN_drewN _ _ _⟩ | exact ⟨rfl, _, Eq.trans (World.drewN_drewN _ _ _) (congrArg (World.drewN _) (Nat.add_assoc _ _ _))⟩)) | (go_at_call 10; (with_reducible refine (spec_DrawLex.calls k _ _ l0 t266 _ ?side1 ?side2 A4.out).mono ?_); (case side1 => repeat (first | exact HR0.out | (with_reducible refine Kd.C_alloc ?_ _) | (with_reducible refine Kd.C_drewN ?_ _) | (with_reducible refine Kd.C_drew ?_))); (case side2 => exact HC0.out); rintro e w8 ⟨rfl, hb⟩; have n0_ := Aside0.mk (below_step z3q10 hb); clear HB; have HB := n0_; clear n0_; (try clear hb); (try clear hb2); (try clear hk); (try clear hi)) | (go_at_call 11; (with_reducible refine (impl_Lex.calls k t266 t267 t270 t271 _ A5.out).mono ?_); rintro e w9 ⟨v268, rfl, ho0, hb⟩; have n0_ := Aside0.mk (Kd.R_lower ho0 (below_size z3q10)); have n1_ := Aside0.mk (below_step z3q10 hb); clear HB; have HO269 := n0_; have HB := n1_; clear n0_ n1_; (try clear hb); (try clear hb2); (try clear hk); (try clear hi); (try clear ho0)) | ((with_reducible refine gate_dst (N := 5) rfl ?_); (try (refine gate_guard (by rfl) ?_; dsimp only)); refine box_event ?hg (N := 5) ?hd (cs := #[.int .i64 0, .int .i64 0]) (t := 27) ?hr ?_; (case hd => rfl); (case hg => rfl); (case hr => first | (go_simp; done) | (go_simp; rfl)); intro gb272 hg w10 hbox hb; have n0_ := Aside0.mk (Kd.R_below z3q24 hb); have n1_ := Aside0.mk (below_step z3q10 hb); have n2_ := Aside0.mk (hbox); have n3_ := Aside0.mk ((z3q32 : w.heap.size ≤ gb272)); have n4_ := Aside0.mk ((z3q32 : w.heap.size ≤ gb272)); clear HO269; clear HB; have HO269 := n0_; have HB := n1_; have BK272 := n2_; have GW272 := n3_; have GE272 := n4_; clear n0_ n1_ n2_ n3_ n4_; clear hb hbox hg; have hcz11_0 : w10.cell? ⟨gb272, 0, none⟩ = some (.int .i64 0) := (blk_cell BK272.out 0).trans rfl; have hcz11_1 : w10.cell? ⟨gb272, 1, none⟩ = some (.int .i64 0) := (blk_cell BK272.out 1).trans rfl; have hfz11_0 := blk_frozen BK272.out 0; have hfz11_1 := blk_frozen BK272.out 1) | (go_at_call 12; (with_reducible refine (spec_Lex.calls k t266 t273 t276 t277 _ A6.out).mono ?_); rintro e w12 ⟨v274, rfl, ho0, hb⟩; have n0_ := Aside0.mk (Kd.R_elder' z3q11 (Kd.R_base ho0) hb); have n1_ := Aside0.mk (Kd.R_lower (Kd.R_new' ho0 (Kd.R_lt z3q11)) (below_size z3q9)); have n2_ := Aside0.mk (blk_below (g := gb272) (o := .cells #[.int .i64 t270, .int .i64 t271] 27 (0, 0)) z3q16 hb); have n3_ := Aside0.mk (below_step z3q9 hb); clear HO269; clear BK272; clear HB; have HO269 := n0_; have HO275 := n1_; have BK272 := n2_; have HB := n3_; clear n0_ n1_ n2_ n3_; (try clear hb); (try clear hb2); (try clear hk); (try clear hi); (try clear ho0)) | ((with_reducible refine gate_dst (N := 7) rfl ?_); (try (refine gate_guard (by rfl) ?_; dsimp only)); refine box_event ?hg (N := 7) ?hd (cs := #[.int .i64 0, .int .i64 0]) (t := 27) ?hr ?_; (case hd => rfl); (case hg => rfl); (case hr => first | (go_simp; done) | (go_simp; rfl)); intro gb278 hg w13 hbox hb; have n0_ := Aside0.mk (Kd.R_below z3q24 hb); have n1_ := Aside0.mk (Kd.R_below z3q30 hb); have n2_ := Aside0.mk (blk_below (g := gb272) (o := .cells #[.int .i64 t270, .int .i64 t271] 27 (0, 0)) z3q3 hb); have n3_ := Aside0.mk (below_step z3q9 hb); have n4_ := Aside0.mk (hbox); have n5_ := Aside0.mk ((z3q33 : w.heap.size ≤ gb278)); have n6_ := Aside0.mk ((z3q33 : w.heap.size ≤ gb278)); have n7_ := Aside0.mk ((z3q12 : gb272 ≠ gb278)); have n8_ := Aside0.mk ((z3q13 : gb278 ≠ gb272)); clear HO269; clear HO275; clear BK272; clear HB; have HO269 := n0_; have HO275 := n1_; have BK272 := n2_; have HB := n3_; have BK278 := n4_; have GW278 := n5_; have GE278 := n6_; have NB272_278 := n7_; have NB278_272 := n8_; clear n0_ n1_ n2_ n3_ n4_ n5_ n6_ n7_ n8_; clear hb hbox hg; have hnb14 := NB278_272.out; have hnc14 := NB272_278.out; have hcz15_0 : w13.cell? ⟨gb278, 0, none⟩ = some (.int .i64 0) := (blk_cell BK278.out 0).trans rfl; have hcz15_1 : w13.cell? ⟨gb278, 1, none⟩ = some (.int .i64 0) := (blk_cell BK278.out 1).trans rfl; have hfz15_0 := blk_frozen BK278.out 0; have hfz15_1 := blk_frozen BK278.out 1))
  repeat (go_quiet (first | (go_at_call 9; (with_reducible refine (laws_big.calls _ _ l0 false _ ?side1 ?side2 A2.out).mono ?_); (case side1 => repeat (first | exact HR0.out | (with_reducible refine Kd.C_alloc ?_ _) | (with_reducible refine Kd.C_drewN ?_ _) | (with_reducible refine Kd.C_drew ?_))); (case side2 => exact HC0.out); rintro e w' ⟨rfl, ⟨nd, rfl⟩⟩; (try first | exact ⟨rfl, _, World.drewN_drewN _ _ _⟩ | exact ⟨rfl, _, Eq.trans (World.drewN_drewN _ _ _) (congrArg (World.drewN _) (Nat.add_assoc _ _ _))⟩)) | (go_at_call 10; (with_reducible refine (spec_DrawLex.calls k _ _ l0 t266 _ ?side1 ?side2 A4.out).mono ?_); (case side1 => repeat (first | exact HR0.out | (with_reducible refine Kd.C_alloc ?_ _) | (with_reducible refine Kd.C_drewN ?_ _) | (with_reducible refine Kd.C_drew ?_))); (case side2 => exact HC0.out); rintro e w8 ⟨rfl, hb⟩; have n0_ := Aside0.mk (below_step z3q10 hb); clear HB; have HB := n0_; clear n0_; (try clear hb); (try clear hb2); (try clear hk); (try clear hi)) | (go_at_call 11; (with_reducible refine (impl_Lex.calls k t266 t267 t270 t271 _ A5.out).mono ?_); rintro e w9 ⟨v268, rfl, ho0, hb⟩; have n0_ := Aside0.mk (Kd.R_lower ho0 (below_size z3q10)); have n1_ := Aside0.mk (below_step z3q10 hb); clear HB; have HO269 := n0_; have HB := n1_; clear n0_ n1_; (try clear hb); (try clear hb2); (try clear hk); (try clear hi); (try clear ho0)) | ((with_reducible refine gate_dst (N := 5) rfl ?_); (try (refine gate_guard (by rfl) ?_; dsimp only)); refine box_event ?hg (N := 5) ?hd (cs := #[.int .i64 0, .int .i64 0]) (t := 27) ?hr ?_; (case hd => rfl); (case hg => rfl); (case hr => first | (go_simp; done) | (go_simp; rfl)); intro gb272 hg w10 hbox hb; have n0_ := Aside0.mk (Kd.R_below z3q24 hb); have n1_ := Aside0.mk (below_step z3q10 hb); have n2_ := Aside0.mk (hbox); have n3_ := Aside0.mk ((z3q32 : w.heap.size ≤ gb272)); have n4_ := Aside0.mk ((z3q32 : w.heap.size ≤ gb272)); clear HO269; clear HB; have HO269 := n0_; have HB := n1_; have BK272 := n2_; have GW272 := n3_; have GE272 := n4_; clear n0_ n1_ n2_ n3_ n4_; clear hb hbox hg; have hcz11_0 : w10.cell? ⟨gb272, 0, none⟩ = some (.int .i64 0) := (blk_cell BK272.out 0).trans rfl; have hcz11_1 : w10.cell? ⟨gb272, 1, none⟩ = some (.int .i64 0) := (blk_cell BK272.out 1).trans rfl; have hfz11_0 := blk_frozen BK272.out 0; have hfz11_1 := blk_frozen BK272.out 1) | (go_at_call 12; (with_reducible refine (spec_Lex.calls k t266 t273 t276 t277 _ A6.out).mono ?_); rintro e w12 ⟨v274, rfl, ho0, hb⟩; have n0_ := Aside0.mk (Kd.R_elder' z3q11 (Kd.R_base ho0) hb); have n1_ := Aside0.mk (Kd.R_lower (Kd.R_new' ho0 (Kd.R_lt z3q11)) (below_size z3q9)); have n2_ := Aside0.mk (blk_below (g := gb272) (o := .cells #[.int .i64 t270, .int .i64 t271] 27 (0, 0)) z3q16 hb); have n3_ := Aside0.mk (below_step z3q9 hb); clear HO269; clear BK272; clear HB; have HO269 := n0_; have HO275 := n1_; have BK272 := n2_; have HB := n3_; clear n0_ n1_ n2_ n3_; (try clear hb); (try clear hb2); (try clear hk); (try clear hi); (try clear ho0)) | ((with_reducible refine gate_dst (N := 7) rfl ?_); (try (refine gate_guard (by rfl) ?_; dsimp only)); refine box_event ?hg (N := 7) ?hd (cs := #[.int .i64 0, .int .i64 0]) (t := 27) ?hr ?_; (case hd => rfl); (case hg => rfl); (case hr => first | (go_simp; done) | (go_simp; rfl)); intro gb278 hg w13 hbox hb; have n0_ := Aside0.mk (Kd.R_below z3q24 hb); have n1_ := Aside0.mk (Kd.R_below z3q30 hb); have n2_ := Aside0.mk (blk_below (g := gb272) (o := .cells #[.int .i64 t270, .int .i64 t271] 27 (0, 0)) z3q3 hb); have n3_ := Aside0.mk (below_step z3q9 hb); have n4_ := Aside0.mk (hbox); have n5_ := Aside0.mk ((z3q33 : w.heap.size ≤ gb278)); have n6_ := Aside0.mk ((z3q33 : w.heap.size ≤ gb278)); have n7_ := Aside0.mk ((z3q12 : gb272 ≠ gb278)); have n8_ := Aside0.mk ((z3q13 : gb278 ≠ gb272)); clear HO269; clear HO275; clear BK272; clear HB; have HO269 := n0_; have HO275 := n1_; have BK272 := n2_; have HB := n3_; have BK278 := n4_; have GW278 := n5_; have GE278 := n6_; have NB272_278 := n7_; have NB278_272 := n8_; clear n0_ n1_ n2_ n3_ n4_ n5_ n6_ n7_ n8_; clear hb hbox hg; have hnb14 := NB278_272.out; have hnc14 := NB272_278.out; have hcz15_0 : w13.cell? ⟨gb278, 0, none⟩ = some (.int .i64 0) := (blk_cell BK278.out 0).trans rfl; have hcz15_1 : w13.cell? ⟨gb278, 1, none⟩ = some (.int .i64 0) := (blk_cell BK278.out 1).trans rfl; have hfz15_0 := blk_frozen BK278.out 0; have hfz15_1 := blk_frozen BK278.out 1)); go_upto_region 6 with (first | (go_at_call 9; (with_reducible refine (laws_big.calls _ _ l0 false _ ?side1 ?side2 A2.out).mono ?_); (case side1 => repeat (first | exact HR0.out | (with_reducible refine Kd.C_alloc ?_ _) | (with_reducible refine Kd.C_drewN ?_ _) | (with_reducible refine Kd.C_drew ?_))); (case side2 => exact HC0.out); rintro e w' ⟨rfl, ⟨nd, rfl⟩⟩; (try first | exact ⟨rfl, _, World.drewN_drewN _ _ _⟩ | exact ⟨rfl, _, Eq.trans (World.drewN_drewN _ _ _) (congrArg (World.drewN _) (Nat.add_assoc _ _ _))⟩)) | (go_at_call 10; (with_reducible refine (spec_DrawLex.calls k _ _ l0 t266 _ ?side1 ?side2 A4.out).mono ?_); (case side1 => repeat (first | exact HR0.out | (with_reducible refine Kd.C_alloc ?_ _) | (with_reducible refine Kd.C_drewN ?_ _) | (with_reducible refine Kd.C_drew ?_))); (case side2 => exact HC0.out); rintro e w8 ⟨rfl, hb⟩; have n0_ := Aside0.mk (below_step z3q10 hb); clear HB; have HB := n0_; clear n0_; (try clear hb); (try clear hb2); (try clear hk); (try clear hi)) | (go_at_call 11; (with_reducible refine (impl_Lex.calls k t266 t267 t270 t271 _ A5.out).mono ?_); rintro e w9 ⟨v268, rfl, ho0, hb⟩; have n0_ := Aside0.mk (Kd.R_lower ho0 (below_size z3q10)); have n1_ := Aside0.mk (below_step z3q10 hb); clear HB; have HO269 := n0_; have HB := n1_; clear n0_ n1_; (try clear hb); (try clear hb2); (try clear hk); (try clear hi); (try clear ho0)) | ((with_reducible refine gate_dst (N := 5) rfl ?_); (try (refine gate_guard (by rfl) ?_; dsimp only)); refine box_event ?hg (N := 5) ?hd (cs := #[.int .i64 0, .int .i64 0]) (t := 27) ?hr ?_; (case hd => rfl); (case hg => rfl); (case hr => first | (go_simp; done) | (go_simp; rfl)); intro gb272 hg w10 hbox hb; have n0_ := Aside0.mk (Kd.R_below z3q24 hb); have n1_ := Aside0.mk (below_step z3q10 hb); have n2_ := Aside0.mk (hbox); have n3_ := Aside0.mk ((z3q32 : w.heap.size ≤ gb272)); have n4_ := Aside0.mk ((z3q32 : w.heap.size ≤ gb272)); clear HO269; clear HB; have HO269 := n0_; have HB := n1_; have BK272 := n2_; have GW272 := n3_; have GE272 := n4_; clear n0_ n1_ n2_ n3_ n4_; clear hb hbox hg; have hcz11_0 : w10.cell? ⟨gb272, 0, none⟩ = some (.int .i64 0) := (blk_cell BK272.out 0).trans rfl; have hcz11_1 : w10.cell? ⟨gb272, 1, none⟩ = some (.int .i64 0) := (blk_cell BK272.out 1).trans rfl; have hfz11_0 := blk_frozen BK272.out 0; have hfz11_1 := blk_frozen BK272.out 1) | (go_at_call 12; (with_reducible refine (spec_Lex.calls k t266 t273 t276 t277 _ A6.out).mono ?_); rintro e w12 ⟨v274, rfl, ho0, hb⟩; have n0_ := Aside0.mk (Kd.R_elder' z3q11 (Kd.R_base ho0) hb); have n1_ := Aside0.mk (Kd.R_lower (Kd.R_new' ho0 (Kd.R_lt z3q11)) (below_size z3q9)); have n2_ := Aside0.mk (blk_below (g := gb272) (o := .cells #[.int .i64 t270, .int .i64 t271] 27 (0, 0)) z3q16 hb); have n3_ := Aside0.mk (below_step z3q9 hb); clear HO269; clear BK272; clear HB; have HO269 := n0_; have HO275 := n1_; have BK272 := n2_; have HB := n3_; clear n0_ n1_ n2_ n3_; (try clear hb); (try clear hb2); (try clear hk); (try clear hi); (try clear ho0)) | ((with_reducible refine gate_dst (N := 7) rfl ?_); (try (refine gate_guard (by rfl) ?_; dsimp only)); refine box_event ?hg (N := 7) ?hd (cs := #[.int .i64 0, .int .i64 0]) (t := 27) ?hr ?_; (case hd => rfl); (case hg => rfl); (case hr => first | (go_simp; done) | (go_simp; rfl)); intro gb278 hg w13 hbox hb; have n0_ := Aside0.mk (Kd.R_below z3q24 hb); have n1_ := Aside0.mk (Kd.R_below z3q30 hb); have n2_ := Aside0.mk (blk_below (g := gb272) (o := .cells #[.int .i64 t270, .int .i64 t271] 27 (0, 0)) z3q3 hb); have n3_ := Aside0.mk (below_step z3q9 hb); have n4_ := Aside0.mk (hbox); have n5_ := Aside0.mk ((z3q33 : w.heap.size ≤ gb278)); have n6_ := Aside0.mk ((z3q33 : w.heap.size ≤ gb278)); have n7_ := Aside0.mk ((z3q12 : gb272 ≠ gb278)); have n8_ := Aside0.mk ((z3q13 : gb278 ≠ gb272)); clear HO269; clear HO275; clear BK272; clear HB; have HO269 := n0_; have HO275 := n1_; have BK272 := n2_; have HB := n3_; have BK278 := n4_; have GW278 := n5_; have GE278 := n6_; have NB272_278 := n7_; have NB278_272 := n8_; clear n0_ n1_ n2_ n3_ n4_ n5_ n6_ n7_ n8_; clear hb hbox hg; have hnb14 := NB278_272.out; have hnc14 := NB272_278.out; have hcz15_0 : w13.cell? ⟨gb278, 0, none⟩ = some (.int .i64 0) := (blk_cell BK278.out 0).trans rfl; have hcz15_1 : w13.cell? ⟨gb278, 1, none⟩ = some (.int .i64 0) := (blk_cell BK278.out 1).trans rfl; have hfz15_0 := blk_frozen BK278.out 0; have hfz15_1 := blk_frozen BK278.out 1)))
  (try simp only [Act.put, List.setIfInBounds_toArray, List.set_cons_zero, List.set_cons_succ])
  go_cut [39] (fun v39 wc => ∃ (kq : Nat) (x39_6 : Bool), v39 = .bool x39_6 ∧ Aside0 (laws_FnWords.j0 kq t266 t267 x39_6 t270 t271 = some r) ∧ Aside0 (kq ≤ k) ∧ Aside0 (Kd.R k31 31 wc w.heap.size (fun _ => True) v268 t267) ∧ Aside0 (wc.heap[gb272]? = some (.cells #[.int .i64 t270, .int .i64 t271] 27 (0, 0))) ∧ Aside0 (wc.heap[gb278]? = some (.cells #[.int .i64 t276, .int .i64 t277] 27 (0, 0))) ∧ Aside0 (Below w.heap.size w wc))
  case first =>
   have H := HC7.out
   clear HC7
   by_cases c16 : (!(t270 == t276) || (!(t271 == t277))) = true
   next => as_aux_lemma =>
    rw [if_pos c16] at H
    have c16b0 : (!(t270 == t276) || (!(t271 == t277))) = true := c16
    clear c16
    (first | rw [c16b0] | (simp only [i64_w, i32_w]; rw [c16b0]) | skip)
    have H' := Aside0.mk H
    clear H
    have hnb17 := NB272_278.out
    have hnc17 := NB278_272.out
    have hcz18_0 : w13.cell? ⟨gb272, 0, none⟩ = some (.int .i64 t270) := (blk_cell BK272.out 0).trans rfl
    have hcz18_1 : w13.cell? ⟨gb272, 1, none⟩ = some (.int .i64 t271) := (blk_cell BK272.out 1).trans rfl
    have hfz18_0 := blk_frozen BK272.out 0
    have hfz18_1 := blk_frozen BK272.out 1
    have hcz19_0 : w13.cell? ⟨gb278, 0, none⟩ = some (.int .i64 0) := (blk_cell BK278.out 0).trans rfl
    have hcz19_1 : w13.cell? ⟨gb278, 1, none⟩ = some (.int .i64 0) := (blk_cell BK278.out 1).trans rfl
    have hfz19_0 := blk_frozen BK278.out 0
    have hfz19_1 := blk_frozen BK278.out 1
    go_wp2
    repeat (go_quiet (fail); try go_wp2)
    go_meet
    case rel => exact ⟨_, (true), z3q19, H', ⟨by first | omega | exact Nat.le_refl _⟩, ⟨by (with_reducible repeat (first | apply Kd.R_alloc | apply Kd.R_drewN | apply Kd.R_drew)); exact Kd.R_mono (Kd.R_far (p := ⟨gb278, 1, none⟩) (Kd.R_far (p := ⟨gb278, 0, none⟩) (Kd.R_types HO269.out BK278.out (by decide)) (fun _ hk => hk.2) (.int .i64 t276)) (fun _ hk => hk.2) (.int .i64 t277)) (fun _ hk => trivial)⟩, ⟨by (with_reducible repeat (first | refine blk_drewN ?_ _ | refine blk_drew ?_ | refine blk_alloc ?_ _)); refine blk_far ?_ NB272_278.out _; (with_reducible repeat (first | refine blk_drewN ?_ _ | refine blk_drew ?_ | refine blk_alloc ?_ _)); refine blk_far ?_ NB272_278.out _; (with_reducible repeat (first | refine blk_drewN ?_ _ | refine blk_drew ?_ | refine blk_alloc ?_ _)); exact BK272.out⟩, ⟨by (with_reducible repeat (first | refine blk_drewN ?_ _ | refine blk_drew ?_ | refine blk_alloc ?_ _)); refine blk_put (cs := #[.int .i64 t276, .int .i64 0]) ?_ 1 _ rfl; (with_reducible repeat (first | refine blk_drewN ?_ _ | refine blk_drew ?_ | refine blk_alloc ?_ _)); refine blk_put (cs := #[.int .i64 0, .int .i64 0]) ?_ 0 _ rfl; (with_reducible repeat (first | refine blk_drewN ?_ _ | refine blk_drew ?_ | refine blk_alloc ?_ _)); exact BK278.out⟩, ⟨by repeat (first | (with_reducible first | exact HB.out | apply below_alloc | apply pw_below_drewN | apply below_drew1 | refine below_set ?_ GE272.out | refine below_set ?_ GE278.out) | exact HB.out)⟩⟩
   next => as_aux_lemma =>
    rw [if_neg c16] at H
    have c16b0 : (!(t270 == t276) || (!(t271 == t277))) = false := by simpa using c16
    clear c16
    (first | rw [c16b0] | (simp only [i64_w, i32_w]; rw [c16b0]) | skip)
    have H' := Aside0.mk H
    clear H
    have hnb20 := NB272_278.out
    have hnc20 := NB278_272.out
    have hcz21_0 : w13.cell? ⟨gb272, 0, none⟩ = some (.int .i64 t270) := (blk_cell BK272.out 0).trans rfl
    have hcz21_1 : w13.cell? ⟨gb272, 1, none⟩ = some (.int .i64 t271) := (blk_cell BK272.out 1).trans rfl
    have hfz21_0 := blk_frozen BK272.out 0
    have hfz21_1 := blk_frozen BK272.out 1
    have hcz22_0 : w13.cell? ⟨gb278, 0, none⟩ = some (.int .i64 0) := (blk_cell BK278.out 0).trans rfl
    have hcz22_1 : w13.cell? ⟨gb278, 1, none⟩ = some (.int .i64 0) := (blk_cell BK278.out 1).trans rfl
    have hfz22_0 := blk_frozen BK278.out 0
    have hfz22_1 := blk_frozen BK278.out 1
    obtain ⟨Ao23, co23, eo23⟩ := Kd.R_slice HO269.out
    subst eo23
    obtain ⟨Ao24, co24, eo24⟩ := Kd.R_slice HO275.out
    subst eo24
    go_wp2
    repeat (go_quiet (fail); try go_wp2)
    go_meet
    case rel => exact ⟨_, (((t267.length : Int) != (t273.length : Int))), z3q19, H', ⟨by first | omega | exact Nat.le_refl _⟩, ⟨by (with_reducible repeat (first | apply Kd.R_alloc | apply Kd.R_drewN | apply Kd.R_drew)); exact Kd.R_mono (Kd.R_far (p := ⟨gb278, 1, none⟩) (Kd.R_far (p := ⟨gb278, 0, none⟩) (Kd.R_types HO269.out BK278.out (by decide)) (fun _ hk => hk.2) (.int .i64 t276)) (fun _ hk => hk.2) (.int .i64 t277)) (fun _ hk => trivial)⟩, ⟨by (with_reducible repeat (first | refine blk_drewN ?_ _ | refine blk_drew ?_ | refine blk_alloc ?_ _)); refine blk_far ?_ NB272_278.out _; (with_reducible repeat (first | refine blk_drewN ?_ _ | refine blk_drew ?_ | refine blk_alloc ?_ _)); refine blk_far ?_ NB272_278.out _; (with_reducible repeat (first | refine blk_drewN ?_ _ | refine blk_drew ?_ | refine blk_alloc ?_ _)); exact BK272.out⟩, ⟨by (with_reducible repeat (first | refine blk_drewN ?_ _ | refine blk_drew ?_ | refine blk_alloc ?_ _)); refine blk_put (cs := #[.int .i64 t276, .int .i64 0]) ?_ 1 _ rfl; (with_reducible repeat (first | refine blk_drewN ?_ _ | refine blk_drew ?_ | refine blk_alloc ?_ _)); refine blk_put (cs := #[.int .i64 0, .int .i64 0]) ?_ 0 _ rfl; (with_reducible repeat (first | refine blk_drewN ?_ _ | refine blk_drew ?_ | refine blk_alloc ?_ _)); exact BK278.out⟩, ⟨by repeat (first | (with_reducible first | exact HB.out | apply below_alloc | apply pw_below_drewN | apply below_drew1 | refine below_set ?_ GE272.out | refine below_set ?_ GE278.out) | exact HB.out)⟩⟩
  case rest =>
   clear HC7
   try clear c1
   try clear c2
   try clear p2
   try clear c3
   try clear c14
   try clear c16
   try clear c16b0
   try clear c17
   try clear c20
   try clear hcz11_0
   try clear hcz11_1
   try clear hcz15_0
   try clear hcz15_1
   try clear hcz18_0
   try clear hcz18_1
   try clear hcz19_0
   try clear hcz19_1
   try clear hcz21_0
   try clear hcz21_1
   try clear hcz22_0
   try clear hcz22_1
   try clear hfz11_0
   try clear hfz11_1
   try clear hfz15_0
   try clear hfz15_1
   try clear hfz18_0
   try clear hfz18_1
   try clear hfz19_0
   try clear hfz19_1
   try clear hfz21_0
   try clear hfz21_1
   try clear hfz22_0
   try clear hfz22_1
   obtain ⟨kq, x39_6, rfl, HA, HJ6, HO_4, BK272, BK278, HB⟩ := hcut
   cases kq with
   | zero => exact absurd HA.out (by simp [laws_FnWords.j0])
   | succ kj6 =>
    have H := HA.out
    clear HA
    simp only [laws_FnWords.j0] at H
    by_cases c25 : x39_6 = true
    next => as_aux_lemma =>
     subst c25
     have H1 : (some false) = some r := by rw [if_pos rfl] at H; exact H
     clear H
     have H := H1
     clear H1
     obtain rfl := Option.some.inj H
     go_wp2
     repeat (go_quiet (fail); try go_wp2)
     go_ret
     exact ⟨by first | rfl | (simp [errW_none, errW_some] <;> rfl) | (simp [*, errW_none, errW_some] <;> rfl), by repeat (first | (with_reducible first | exact HB.out | apply below_alloc | apply pw_below_drewN | apply below_drew1 | refine below_set ?_ GE272.out | refine below_set ?_ GE278.out) | exact HB.out)⟩
    next => as_aux_lemma =>
     replace c25 := Bool.eq_false_iff.mpr c25
     subst c25
     have H1 : (if t270 = 0 then (laws_FnWords.l0 kj6 t266 t267 (([] : List Int)) 0) else (some ((t267.length : Int) == 0))) = some r := by rw [if_neg (show ¬ (false = true) by decide)] at H; exact H
     clear H
     have H := H1
     clear H1
     by_cases c26 : t270 = 0
     next => as_aux_lemma =>
      rw [if_pos c26] at H
      have c26b0 : (t270 == 0) = true := beq_iff_eq.mpr c26
      have c26b1 : (t270 != 0) = false := bne_eq_false_iff_eq.mpr c26
      clear c26
      obtain ⟨y279, hy279⟩ : ∃ y_ : List Int, y_ = (([] : List Int)) := ⟨_, rfl⟩
      replace H : (laws_FnWords.l0 kj6 t266 t267 y279 0) = some r := by first | (rw [hy279]; with_reducible exact H) | (have H2_ := (Option.bind_some _ _).symm.trans H; rw [hy279]; with_reducible exact H2_) | (have H2_ := (Option.bind_some _ _).symm.trans H; with_reducible exact H2_) | with_reducible exact H | (rw [hy279]; exact H) | exact H
      have Ny279 := Aside0.mk hy279
      clear hy279
      have H' := Aside0.mk H
      clear H
      have hnb27 := NB272_278.out
      have hnc27 := NB278_272.out
      have hcz28_0 : wc.cell? ⟨gb272, 0, none⟩ = some (.int .i64 t270) := (blk_cell BK272.out 0).trans rfl
      have hcz28_1 : wc.cell? ⟨gb272, 1, none⟩ = some (.int .i64 t271) := (blk_cell BK272.out 1).trans rfl
      have hfz28_0 := blk_frozen BK272.out 0
      have hfz28_1 := blk_frozen BK272.out 1
      go_wp2_with (first | ((with_reducible refine gate_dst (N := 46) rfl ?_); (try (refine gate_guard (by rfl) ?_; dsimp only)); refine Kd.R_lit (Kd.int .u8) _ 5 ?hg (N := 46) ?hd (xs := ([] : List Int)) (inner := []) (ok := fun _ => True) (okp := fun _ => True) ?hr ?hp (fun _ hk => hk) trivial (Below.refl _ _) (Nat.le_refl _) (by simp) ?_; (case hd => rfl); (case hg => rfl); (case hr => first | (go_simp; done) | (go_simp; rfl)); (case hp => exact (Reps.none _ _)); intro v280 w29 ho30 hb hg_ hnew_; clear hg_ hnew_; (first | rw [← Ny279.out] at ho30 | (simp only [Int.reduceToNat] at ho30; rw [← Ny279.out] at ho30)); have n0_ := Aside0.mk (Kd.R_below z3q5 hb); have n1_ := Aside0.mk (Kd.R_lower ho30 (below_size z3q1)); have n2_ := Aside0.mk (blk_below (g := gb272) (o := .cells #[.int .i64 t270, .int .i64 t271] 27 (0, 0)) z3q3 hb); have n3_ := Aside0.mk (blk_below (g := gb278) (o := .cells #[.int .i64 t276, .int .i64 t277] 27 (0, 0)) z3q4 hb); have n4_ := Aside0.mk (below_step z3q1 hb); clear HO_4; clear BK272; clear BK278; clear HB; have HO_4 := n0_; have HO281 := n1_; have BK272 := n2_; have BK278 := n3_; have HB := n4_; clear n0_ n1_ n2_ n3_ n4_; clear hb ho30))
      repeat (go_quiet (first | ((with_reducible refine gate_dst (N := 46) rfl ?_); (try (refine gate_guard (by rfl) ?_; dsimp only)); refine Kd.R_lit (Kd.int .u8) _ 5 ?hg (N := 46) ?hd (xs := ([] : List Int)) (inner := []) (ok := fun _ => True) (okp := fun _ => True) ?hr ?hp (fun _ hk => hk) trivial (Below.refl _ _) (Nat.le_refl _) (by simp) ?_; (case hd => rfl); (case hg => rfl); (case hr => first | (go_simp; done) | (go_simp; rfl)); (case hp => exact (Reps.none _ _)); intro v280 w29 ho30 hb hg_ hnew_; clear hg_ hnew_; (first | rw [← Ny279.out] at ho30 | (simp only [Int.reduceToNat] at ho30; rw [← Ny279.out] at ho30)); have n0_ := Aside0.mk (Kd.R_below z3q5 hb); have n1_ := Aside0.mk (Kd.R_lower ho30 (below_size z3q1)); have n2_ := Aside0.mk (blk_below (g := gb272) (o := .cells #[.int .i64 t270, .int .i64 t271] 27 (0, 0)) z3q3 hb); have n3_ := Aside0.mk (blk_below (g := gb278) (o := .cells #[.int .i64 t276, .int .i64 t277] 27 (0, 0)) z3q4 hb); have n4_ := Aside0.mk (below_step z3q1 hb); clear HO_4; clear BK272; clear BK278; clear HB; have HO_4 := n0_; have HO281 := n1_; have BK272 := n2_; have BK278 := n3_; have HB := n4_; clear n0_ n1_ n2_ n3_ n4_; clear hb ho30)); try go_wp2_with (first | ((with_reducible refine gate_dst (N := 46) rfl ?_); (try (refine gate_guard (by rfl) ?_; dsimp only)); refine Kd.R_lit (Kd.int .u8) _ 5 ?hg (N := 46) ?hd (xs := ([] : List Int)) (inner := []) (ok := fun _ => True) (okp := fun _ => True) ?hr ?hp (fun _ hk => hk) trivial (Below.refl _ _) (Nat.le_refl _) (by simp) ?_; (case hd => rfl); (case hg => rfl); (case hr => first | (go_simp; done) | (go_simp; rfl)); (case hp => exact (Reps.none _ _)); intro v280 w29 ho30 hb hg_ hnew_; clear hg_ hnew_; (first | rw [← Ny279.out] at ho30 | (simp only [Int.reduceToNat] at ho30; rw [← Ny279.out] at ho30)); have n0_ := Aside0.mk (Kd.R_below z3q5 hb); have n1_ := Aside0.mk (Kd.R_lower ho30 (below_size z3q1)); have n2_ := Aside0.mk (blk_below (g := gb272) (o := .cells #[.int .i64 t270, .int .i64 t271] 27 (0, 0)) z3q3 hb); have n3_ := Aside0.mk (blk_below (g := gb278) (o := .cells #[.int .i64 t276, .int .i64 t277] 27 (0, 0)) z3q4 hb); have n4_ := Aside0.mk (below_step z3q1 hb); clear HO_4; clear BK272; clear BK278; clear HB; have HO_4 := n0_; have HO281 := n1_; have BK272 := n2_; have BK278 := n3_; have HB := n4_; clear n0_ n1_ n2_ n3_ n4_; clear hb ho30)))
      go_loopg [8, 9] kj6 (fun kq v8 v9 w' => ∃ (x8_2 : List Int) (x9_2 : Int), v9 = .int .i64 x9_2 ∧ Aside0 (laws_FnWords.l0 kq t266 t267 x8_2 x9_2 = some r) ∧ Aside0 (kq ≤ kj6) ∧ Aside0 (Kd.R k31 31 w' w.heap.size (fun _ => True) v268 t267) ∧ Aside0 (Kd.R (Kd.int .u8) 5 w' w.heap.size (fun _ => True) v8 x8_2) ∧ Aside0 (w'.heap[gb272]? = some (.cells #[.int .i64 t270, .int .i64 t271] 27 (0, 0))) ∧ Aside0 (w'.heap[gb278]? = some (.cells #[.int .i64 t276, .int .i64 t277] 27 (0, 0))) ∧ Aside0 (Below w.heap.size w w'))
      case atStart => exact ⟨(y279), (0), z3q19, H', ⟨Nat.le_refl _⟩, ⟨by (with_reducible repeat (first | apply Kd.R_alloc | apply Kd.R_drewN | apply Kd.R_drew)); exact HO_4.out⟩, ⟨by (with_reducible repeat (first | apply Kd.R_alloc | apply Kd.R_drewN | apply Kd.R_drew)); exact HO281.out⟩, ⟨by (with_reducible repeat (first | refine blk_drewN ?_ _ | refine blk_drew ?_ | refine blk_alloc ?_ _)); exact BK272.out⟩, ⟨by (with_reducible repeat (first | refine blk_drewN ?_ _ | refine blk_drew ?_ | refine blk_alloc ?_ _)); exact BK278.out⟩, ⟨by repeat (first | (with_reducible first | exact HB.out | apply below_alloc | apply pw_below_drewN | apply below_drew1 | refine below_set ?_ GE272.out | refine below_set ?_ GE278.out) | exact HB.out)⟩⟩
      case round =>
       clear H'
       try clear c1
       try clear c2
       try clear p2
       try clear c3
       try clear c14
       try clear c16
       try clear c16b0
       try clear c17
       try clear c20
       try clear c25
       try clear c26
       try clear c26b0
       try clear c26b1
       try clear c27
       try clear hcz11_0
       try clear hcz11_1
       try clear hcz15_0
       try clear hcz15_1
       try clear hcz18_0
       try clear hcz18_1
       try clear hcz19_0
       try clear hcz19_1
       try clear hcz21_0
       try clear hcz21_1
       try clear hcz22_0
       try clear hcz22_1
       try clear hcz28_0
       try clear hcz28_1
       try clear hfz11_0
       try clear hfz11_1
       try clear hfz15_0
       try clear hfz15_1
       try clear hfz18_0
       try clear hfz18_1
       try clear hfz19_0
       try clear hfz19_1
       try clear hfz21_0
       try clear hfz21_1
       try clear hfz22_0
       try clear hfz22_1
       try clear hfz28_0
       try clear hfz28_1
       try clear p2
       obtain ⟨x8_2, x9_2, rfl, HA, HK2, HO_4, HO_8, BK272, BK278, HB⟩ := hrel
       cases gk with
       | zero => exact absurd HA.out (by simp [laws_FnWords.l0])
       | succ k2 =>
        have H := HA.out
        clear HA
        simp only [laws_FnWords.l0] at H
        by_cases c31 : (wrap64 (x9_2 + 1)) < (t267.length : Int)
        next => as_aux_lemma =>
         rw [if_pos c31] at H
         have c31b0 : decide ((wrap64 (x9_2 + 1)) < (t267.length : Int)) = true := decide_eq_true c31
         clear c31
         by_cases c32 : 0 ≤ x9_2
         next => as_aux_lemma =>
          rw [if_pos c32] at H
          have c32b0 : decide (0 ≤ x9_2) = true := decide_eq_true c32
          clear c32
          by_cases c33 : x9_2 < (t267.length : Int)
          next => as_aux_lemma =>
           rw [if_pos c33] at H
           have c33b0 : decide (x9_2 < (t267.length : Int)) = true := decide_eq_true c33
           clear c33
           have HC34 := Aside0.mk H
           clear H
           obtain ⟨Ao35, co35, eo35⟩ := Kd.R_slice HO_4.out
           subst eo35
           have p282 : 0 ≤ (x9_2 : Int) := of_decide_eq_true z3q7
           have q282 : x9_2 < (t267.length : Int) := of_decide_eq_true z3q7
           obtain ⟨ad282, e282, hx282_0, hx282_1, hx282_2, hx282_3⟩ := at_T31 (Kd.R_reads' HO_4.out).2.2 x9_2 p282 q282
           cases e282
           replace p282 := eq_true p282
           replace q282 := eq_true q282
           go_upto_region 15 with (first | ((with_reducible refine gate_dst (N := 10) rfl ?_); (try (refine gate_guard (by rfl) ?_; dsimp only)); refine box_event ?hg (N := 10) ?hd (cs := #[.int .i64 0, .string (⟨#[]⟩ : ByteArray), .int .i64 0, .int .i64 0]) (t := 31) ?hr ?_; (case hd => rfl); (case hg => rfl); (case hr => first | (go_simp; done) | (go_simp; rfl)); intro gb283 hg w36 hbox hb; have n0_ := Aside0.mk (Kd.R_below (Kd.R_elderB z3q5 gb283 (Nat.le_of_eq hg.symm)) hb); have n1_ := Aside0.mk (Kd.R_below z3q6 hb); have n2_ := Aside0.mk (blk_below (g := gb272) (o := .cells #[.int .i64 t270, .int .i64 t271] 27 (0, 0)) z3q3 hb); have n3_ := Aside0.mk (blk_below (g := gb278) (o := .cells #[.int .i64 t276, .int .i64 t277] 27 (0, 0)) z3q4 hb); have n4_ := Aside0.mk (below_step z3q1 hb); have n5_ := Aside0.mk (hbox); have n6_ := Aside0.mk ((z3q18 : w.heap.size ≤ gb283)); have n7_ := Aside0.mk ((z3q18 : w.heap.size ≤ gb283)); have n8_ := Aside0.mk ((z3q12 : gb272 ≠ gb283)); have n9_ := Aside0.mk ((z3q13 : gb283 ≠ gb272)); have n10_ := Aside0.mk ((z3q14 : gb278 ≠ gb283)); have n11_ := Aside0.mk ((z3q15 : gb283 ≠ gb278)); clear HO_4; clear HO_8; clear BK272; clear BK278; clear HB; have HO_4 := n0_; have HO_8 := n1_; have BK272 := n2_; have BK278 := n3_; have HB := n4_; have BK283 := n5_; have GW283 := n6_; have GE283 := n7_; have NB272_283 := n8_; have NB283_272 := n9_; have NB278_283 := n10_; have NB283_278 := n11_; clear n0_ n1_ n2_ n3_ n4_ n5_ n6_ n7_ n8_ n9_ n10_ n11_; clear hb hbox hg; have hnb37 := NB283_272.out; have hnc37 := NB272_283.out; have hnb38 := NB283_278.out; have hnc38 := NB278_283.out; have hcz39_0 : w36.cell? ⟨gb283, 0, none⟩ = some (.int .i64 0) := (blk_cell BK283.out 0).trans rfl; have hcz39_1 : w36.cell? ⟨gb283, 1, none⟩ = some (.string (⟨#[]⟩ : ByteArray)) := (blk_cell BK283.out 1).trans rfl; have hcz39_2 : w36.cell? ⟨gb283, 2, none⟩ = some (.int .i64 0) := (blk_cell BK283.out 2).trans rfl; have hcz39_3 : w36.cell? ⟨gb283, 3, none⟩ = some (.int .i64 0) := (blk_cell BK283.out 3).trans rfl; have hfz39_0 := blk_frozen BK283.out 0; have hfz39_1 := blk_frozen BK283.out 1; have hfz39_2 := blk_frozen BK283.out 2; have hfz39_3 := blk_frozen BK283.out 3))
           repeat (go_quiet (first | ((with_reducible refine gate_dst (N := 10) rfl ?_); (try (refine gate_guard (by rfl) ?_; dsimp only)); refine box_event ?hg (N := 10) ?hd (cs := #[.int .i64 0, .string (⟨#[]⟩ : ByteArray), .int .i64 0, .int .i64 0]) (t := 31) ?hr ?_; (case hd => rfl); (case hg => rfl); (case hr => first | (go_simp; done) | (go_simp; rfl)); intro gb283 hg w36 hbox hb; have n0_ := Aside0.mk (Kd.R_below (Kd.R_elderB z3q5 gb283 (Nat.le_of_eq hg.symm)) hb); have n1_ := Aside0.mk (Kd.R_below z3q6 hb); have n2_ := Aside0.mk (blk_below (g := gb272) (o := .cells #[.int .i64 t270, .int .i64 t271] 27 (0, 0)) z3q3 hb); have n3_ := Aside0.mk (blk_below (g := gb278) (o := .cells #[.int .i64 t276, .int .i64 t277] 27 (0, 0)) z3q4 hb); have n4_ := Aside0.mk (below_step z3q1 hb); have n5_ := Aside0.mk (hbox); have n6_ := Aside0.mk ((z3q18 : w.heap.size ≤ gb283)); have n7_ := Aside0.mk ((z3q18 : w.heap.size ≤ gb283)); have n8_ := Aside0.mk ((z3q12 : gb272 ≠ gb283)); have n9_ := Aside0.mk ((z3q13 : gb283 ≠ gb272)); have n10_ := Aside0.mk ((z3q14 : gb278 ≠ gb283)); have n11_ := Aside0.mk ((z3q15 : gb283 ≠ gb278)); clear HO_4; clear HO_8; clear BK272; clear BK278; clear HB; have HO_4 := n0_; have HO_8 := n1_; have BK272 := n2_; have BK278 := n3_; have HB := n4_; have BK283 := n5_; have GW283 := n6_; have GE283 := n7_; have NB272_283 := n8_; have NB283_272 := n9_; have NB278_283 := n10_; have NB283_278 := n11_; clear n0_ n1_ n2_ n3_ n4_ n5_ n6_ n7_ n8_ n9_ n10_ n11_; clear hb hbox hg; have hnb37 := NB283_272.out; have hnc37 := NB272_283.out; have hnb38 := NB283_278.out; have hnc38 := NB278_283.out; have hcz39_0 : w36.cell? ⟨gb283, 0, none⟩ = some (.int .i64 0) := (blk_cell BK283.out 0).trans rfl; have hcz39_1 : w36.cell? ⟨gb283, 1, none⟩ = some (.string (⟨#[]⟩ : ByteArray)) := (blk_cell BK283.out 1).trans rfl; have hcz39_2 : w36.cell? ⟨gb283, 2, none⟩ = some (.int .i64 0) := (blk_cell BK283.out 2).trans rfl; have hcz39_3 : w36.cell? ⟨gb283, 3, none⟩ = some (.int .i64 0) := (blk_cell BK283.out 3).trans rfl; have hfz39_0 := blk_frozen BK283.out 0; have hfz39_1 := blk_frozen BK283.out 1; have hfz39_2 := blk_frozen BK283.out 2; have hfz39_3 := blk_frozen BK283.out 3)); go_upto_region 15 with (first | ((with_reducible refine gate_dst (N := 10) rfl ?_); (try (refine gate_guard (by rfl) ?_; dsimp only)); refine box_event ?hg (N := 10) ?hd (cs := #[.int .i64 0, .string (⟨#[]⟩ : ByteArray), .int .i64 0, .int .i64 0]) (t := 31) ?hr ?_; (case hd => rfl); (case hg => rfl); (case hr => first | (go_simp; done) | (go_simp; rfl)); intro gb283 hg w36 hbox hb; have n0_ := Aside0.mk (Kd.R_below (Kd.R_elderB z3q5 gb283 (Nat.le_of_eq hg.symm)) hb); have n1_ := Aside0.mk (Kd.R_below z3q6 hb); have n2_ := Aside0.mk (blk_below (g := gb272) (o := .cells #[.int .i64 t270, .int .i64 t271] 27 (0, 0)) z3q3 hb); have n3_ := Aside0.mk (blk_below (g := gb278) (o := .cells #[.int .i64 t276, .int .i64 t277] 27 (0, 0)) z3q4 hb); have n4_ := Aside0.mk (below_step z3q1 hb); have n5_ := Aside0.mk (hbox); have n6_ := Aside0.mk ((z3q18 : w.heap.size ≤ gb283)); have n7_ := Aside0.mk ((z3q18 : w.heap.size ≤ gb283)); have n8_ := Aside0.mk ((z3q12 : gb272 ≠ gb283)); have n9_ := Aside0.mk ((z3q13 : gb283 ≠ gb272)); have n10_ := Aside0.mk ((z3q14 : gb278 ≠ gb283)); have n11_ := Aside0.mk ((z3q15 : gb283 ≠ gb278)); clear HO_4; clear HO_8; clear BK272; clear BK278; clear HB; have HO_4 := n0_; have HO_8 := n1_; have BK272 := n2_; have BK278 := n3_; have HB := n4_; have BK283 := n5_; have GW283 := n6_; have GE283 := n7_; have NB272_283 := n8_; have NB283_272 := n9_; have NB278_283 := n10_; have NB283_278 := n11_; clear n0_ n1_ n2_ n3_ n4_ n5_ n6_ n7_ n8_ n9_ n10_ n11_; clear hb hbox hg; have hnb37 := NB283_272.out; have hnc37 := NB272_283.out; have hnb38 := NB283_278.out; have hnc38 := NB278_283.out; have hcz39_0 : w36.cell? ⟨gb283, 0, none⟩ = some (.int .i64 0) := (blk_cell BK283.out 0).trans rfl; have hcz39_1 : w36.cell? ⟨gb283, 1, none⟩ = some (.string (⟨#[]⟩ : ByteArray)) := (blk_cell BK283.out 1).trans rfl; have hcz39_2 : w36.cell? ⟨gb283, 2, none⟩ = some (.int .i64 0) := (blk_cell BK283.out 2).trans rfl; have hcz39_3 : w36.cell? ⟨gb283, 3, none⟩ = some (.int .i64 0) := (blk_cell BK283.out 3).trans rfl; have hfz39_0 := blk_frozen BK283.out 0; have hfz39_1 := blk_frozen BK283.out 1; have hfz39_2 := blk_frozen BK283.out 2; have hfz39_3 := blk_frozen BK283.out 3)))
           (try simp only [Act.put, List.setIfInBounds_toArray, List.set_cons_zero, List.set_cons_succ])
           go_cut [82] (fun v82 wc => ∃ (kq : Nat) (x82_33 : Bool), v82 = .bool x82_33 ∧ Aside0 (laws_FnWords.j2 kq t266 t267 x8_2 x9_2 x82_33 ((rd_T31 t267 x9_2).f0) ((rd_T31 t267 x9_2).f1) ((rd_T31 t267 x9_2).f2) ((rd_T31 t267 x9_2).f3) = some r) ∧ Aside0 (kq ≤ k2) ∧ Aside0 (Kd.R k31 31 wc w.heap.size (fun k_ => k_ ≠ gb283) (.slice (some ad282) t267.length co35) t267) ∧ Aside0 (Kd.R (Kd.int .u8) 5 wc w.heap.size (fun _ => True) u8 x8_2) ∧ Aside0 (wc.heap[gb272]? = some (.cells #[.int .i64 t270, .int .i64 t271] 27 (0, 0))) ∧ Aside0 (wc.heap[gb278]? = some (.cells #[.int .i64 t276, .int .i64 t277] 27 (0, 0))) ∧ Aside0 (wc.heap[gb283]? = some (.cells #[.int .i64 ((rd_T31 t267 x9_2).f0), .string ((rd_T31 t267 x9_2).f1), .int .i64 ((rd_T31 t267 x9_2).f2), .int .i64 ((rd_T31 t267 x9_2).f3)] 31 (0, 0))) ∧ Aside0 (Below w.heap.size w wc))
           case first =>
            have H := HC34.out
            clear HC34
            by_cases c40 : ((rd_T31 t267 x9_2).f3) < 0
            next => as_aux_lemma =>
             rw [if_pos c40] at H
             have c40b0 : decide (((rd_T31 t267 x9_2).f3) < 0) = true := decide_eq_true c40
             clear c40
             (first | rw [c40b0] | (simp only [i64_w, i32_w]; rw [c40b0]) | skip)
             have H' := Aside0.mk H
             clear H
             have hnb41 := NB283_272.out
             have hnc41 := NB272_283.out
             have hnb42 := NB283_278.out
             have hnc42 := NB278_283.out
             have hcz43_0 : w36.cell? ⟨gb283, 0, none⟩ = some (.int .i64 0) := (blk_cell BK283.out 0).trans rfl
             have hcz43_1 : w36.cell? ⟨gb283, 1, none⟩ = some (.string (⟨#[]⟩ : ByteArray)) := (blk_cell BK283.out 1).trans rfl
             have hcz43_2 : w36.cell? ⟨gb283, 2, none⟩ = some (.int .i64 0) := (blk_cell BK283.out 2).trans rfl
             have hcz43_3 : w36.cell? ⟨gb283, 3, none⟩ = some (.int .i64 0) := (blk_cell BK283.out 3).trans rfl
             have hfz43_0 := blk_frozen BK283.out 0
             have hfz43_1 := blk_frozen BK283.out 1
             have hfz43_2 := blk_frozen BK283.out 2
             have hfz43_3 := blk_frozen BK283.out 3
             go_wp2
             repeat (go_quiet (fail); try go_wp2)
             go_meet
             case rel => exact ⟨_, (true), z3q19, H', ⟨by have := HJ6.out; have := HK2.out; first | omega | exact Nat.le_refl _⟩, ⟨by (with_reducible repeat (first | apply Kd.R_alloc | apply Kd.R_drewN | apply Kd.R_drew)); exact Kd.R_mono (Kd.R_far (p := ⟨gb283, 3, none⟩) (Kd.R_far (p := ⟨gb283, 2, none⟩) (Kd.R_far (p := ⟨gb283, 1, none⟩) (Kd.R_far (p := ⟨gb283, 0, none⟩) (Kd.R_mono HO_4.out (fun k_ hk => (⟨hk, hk.2⟩ : _ ∧ k_ ≠ gb283))) (fun _ hk => hk.2) (.int .i64 ((rd_T31 t267 x9_2).f0))) (fun _ hk => hk.2) (.string ((rd_T31 t267 x9_2).f1))) (fun _ hk => hk.2) (.int .i64 ((rd_T31 t267 x9_2).f2))) (fun _ hk => hk.2) (.int .i64 ((rd_T31 t267 x9_2).f3))) (fun _ hk => hk.1.2)⟩, ⟨by (with_reducible repeat (first | apply Kd.R_alloc | apply Kd.R_drewN | apply Kd.R_drew)); exact Kd.R_mono (Kd.R_far (p := ⟨gb283, 3, none⟩) (Kd.R_far (p := ⟨gb283, 2, none⟩) (Kd.R_far (p := ⟨gb283, 1, none⟩) (Kd.R_far (p := ⟨gb283, 0, none⟩) (Kd.R_types HO_8.out BK283.out (by decide)) (fun _ hk => hk.2) (.int .i64 ((rd_T31 t267 x9_2).f0))) (fun _ hk => hk.2) (.string ((rd_T31 t267 x9_2).f1))) (fun _ hk => hk.2) (.int .i64 ((rd_T31 t267 x9_2).f2))) (fun _ hk => hk.2) (.int .i64 ((rd_T31 t267 x9_2).f3))) (fun _ hk => trivial)⟩, ⟨by (with_reducible repeat (first | refine blk_drewN ?_ _ | refine blk_drew ?_ | refine blk_alloc ?_ _)); refine blk_far ?_ NB272_283.out _; (with_reducible repeat (first | refine blk_drewN ?_ _ | refine blk_drew ?_ | refine blk_alloc ?_ _)); refine blk_far ?_ NB272_283.out _; (with_reducible repeat (first | refine blk_drewN ?_ _ | refine blk_drew ?_ | refine blk_alloc ?_ _)); refine blk_far ?_ NB272_283.out _; (with_reducible repeat (first | refine blk_drewN ?_ _ | refine blk_drew ?_ | refine blk_alloc ?_ _)); refine blk_far ?_ NB272_283.out _; (with_reducible repeat (first | refine blk_drewN ?_ _ | refine blk_drew ?_ | refine blk_alloc ?_ _)); exact BK272.out⟩, ⟨by (with_reducible repeat (first | refine blk_drewN ?_ _ | refine blk_drew ?_ | refine blk_alloc ?_ _)); refine blk_far ?_ NB278_283.out _; (with_reducible repeat (first | refine blk_drewN ?_ _ | refine blk_drew ?_ | refine blk_alloc ?_ _)); refine blk_far ?_ NB278_283.out _; (with_reducible repeat (first | refine blk_drewN ?_ _ | refine blk_drew ?_ | refine blk_alloc ?_ _)); refine blk_far ?_ NB278_283.out _; (with_reducible repeat (first | refine blk_drewN ?_ _ | refine blk_drew ?_ | refine blk_alloc ?_ _)); refine blk_far ?_ NB278_283.out _; (with_reducible repeat (first | refine blk_drewN ?_ _ | refine blk_drew ?_ | refine blk_alloc ?_ _)); exact BK278.out⟩, ⟨by (with_reducible repeat (first | refine blk_drewN ?_ _ | refine blk_drew ?_ | refine blk_alloc ?_ _)); refine blk_put (cs := #[.int .i64 ((rd_T31 t267 x9_2).f0), .string ((rd_T31 t267 x9_2).f1), .int .i64 ((rd_T31 t267 x9_2).f2), .int .i64 0]) ?_ 3 _ rfl; (with_reducible repeat (first | refine blk_drewN ?_ _ | refine blk_drew ?_ | refine blk_alloc ?_ _)); refine blk_put (cs := #[.int .i64 ((rd_T31 t267 x9_2).f0), .string ((rd_T31 t267 x9_2).f1), .int .i64 0, .int .i64 0]) ?_ 2 _ rfl; (with_reducible repeat (first | refine blk_drewN ?_ _ | refine blk_drew ?_ | refine blk_alloc ?_ _)); refine blk_put (cs := #[.int .i64 ((rd_T31 t267 x9_2).f0), .string (⟨#[]⟩ : ByteArray), .int .i64 0, .int .i64 0]) ?_ 1 _ rfl; (with_reducible repeat (first | refine blk_drewN ?_ _ | refine blk_drew ?_ | refine blk_alloc ?_ _)); refine blk_put (cs := #[.int .i64 0, .string (⟨#[]⟩ : ByteArray), .int .i64 0, .int .i64 0]) ?_ 0 _ rfl; (with_reducible repeat (first | refine blk_drewN ?_ _ | refine blk_drew ?_ | refine blk_alloc ?_ _)); exact BK283.out⟩, ⟨by repeat (first | (with_reducible first | exact HB.out | apply below_alloc | apply pw_below_drewN | apply below_drew1 | refine below_set ?_ GE272.out | refine below_set ?_ GE278.out | refine below_set ?_ GE283.out) | exact HB.out)⟩⟩
            next => as_aux_lemma =>
             rw [if_neg c40] at H
             have c40b0 : decide (((rd_T31 t267 x9_2).f3) < 0) = false := decide_eq_false c40
             clear c40
             (first | rw [c40b0] | (simp only [i64_w, i32_w]; rw [c40b0]) | skip)
             by_cases c44 : ((rd_T31 t267 x9_2).f3) ≥ (t266.size : Int)
             next => as_aux_lemma =>
              rw [if_pos c44] at H
              have c44b0 : decide ((t266.size : Int) ≤ ((rd_T31 t267 x9_2).f3)) = true := decide_eq_true c44
              clear c44
              have H' := Aside0.mk H
              clear H
              have hnb45 := NB283_272.out
              have hnc45 := NB272_283.out
              have hnb46 := NB283_278.out
              have hnc46 := NB278_283.out
              have hcz47_0 : w36.cell? ⟨gb283, 0, none⟩ = some (.int .i64 0) := (blk_cell BK283.out 0).trans rfl
              have hcz47_1 : w36.cell? ⟨gb283, 1, none⟩ = some (.string (⟨#[]⟩ : ByteArray)) := (blk_cell BK283.out 1).trans rfl
              have hcz47_2 : w36.cell? ⟨gb283, 2, none⟩ = some (.int .i64 0) := (blk_cell BK283.out 2).trans rfl
              have hcz47_3 : w36.cell? ⟨gb283, 3, none⟩ = some (.int .i64 0) := (blk_cell BK283.out 3).trans rfl
              have hfz47_0 := blk_frozen BK283.out 0
              have hfz47_1 := blk_frozen BK283.out 1
              have hfz47_2 := blk_frozen BK283.out 2
              have hfz47_3 := blk_frozen BK283.out 3
              go_wp2
              repeat (go_quiet (fail); try go_wp2)
              go_meet
              case rel => exact ⟨_, (true), z3q19, H', ⟨by have := HJ6.out; have := HK2.out; first | omega | exact Nat.le_refl _⟩, ⟨by (with_reducible repeat (first | apply Kd.R_alloc | apply Kd.R_drewN | apply Kd.R_drew)); exact Kd.R_mono (Kd.R_far (p := ⟨gb283, 3, none⟩) (Kd.R_far (p := ⟨gb283, 2, none⟩) (Kd.R_far (p := ⟨gb283, 1, none⟩) (Kd.R_far (p := ⟨gb283, 0, none⟩) (Kd.R_mono HO_4.out (fun k_ hk => (⟨hk, hk.2⟩ : _ ∧ k_ ≠ gb283))) (fun _ hk => hk.2) (.int .i64 ((rd_T31 t267 x9_2).f0))) (fun _ hk => hk.2) (.string ((rd_T31 t267 x9_2).f1))) (fun _ hk => hk.2) (.int .i64 ((rd_T31 t267 x9_2).f2))) (fun _ hk => hk.2) (.int .i64 ((rd_T31 t267 x9_2).f3))) (fun _ hk => hk.1.2)⟩, ⟨by (with_reducible repeat (first | apply Kd.R_alloc | apply Kd.R_drewN | apply Kd.R_drew)); exact Kd.R_mono (Kd.R_far (p := ⟨gb283, 3, none⟩) (Kd.R_far (p := ⟨gb283, 2, none⟩) (Kd.R_far (p := ⟨gb283, 1, none⟩) (Kd.R_far (p := ⟨gb283, 0, none⟩) (Kd.R_types HO_8.out BK283.out (by decide)) (fun _ hk => hk.2) (.int .i64 ((rd_T31 t267 x9_2).f0))) (fun _ hk => hk.2) (.string ((rd_T31 t267 x9_2).f1))) (fun _ hk => hk.2) (.int .i64 ((rd_T31 t267 x9_2).f2))) (fun _ hk => hk.2) (.int .i64 ((rd_T31 t267 x9_2).f3))) (fun _ hk => trivial)⟩, ⟨by (with_reducible repeat (first | refine blk_drewN ?_ _ | refine blk_drew ?_ | refine blk_alloc ?_ _)); refine blk_far ?_ NB272_283.out _; (with_reducible repeat (first | refine blk_drewN ?_ _ | refine blk_drew ?_ | refine blk_alloc ?_ _)); refine blk_far ?_ NB272_283.out _; (with_reducible repeat (first | refine blk_drewN ?_ _ | refine blk_drew ?_ | refine blk_alloc ?_ _)); refine blk_far ?_ NB272_283.out _; (with_reducible repeat (first | refine blk_drewN ?_ _ | refine blk_drew ?_ | refine blk_alloc ?_ _)); refine blk_far ?_ NB272_283.out _; (with_reducible repeat (first | refine blk_drewN ?_ _ | refine blk_drew ?_ | refine blk_alloc ?_ _)); exact BK272.out⟩, ⟨by (with_reducible repeat (first | refine blk_drewN ?_ _ | refine blk_drew ?_ | refine blk_alloc ?_ _)); refine blk_far ?_ NB278_283.out _; (with_reducible repeat (first | refine blk_drewN ?_ _ | refine blk_drew ?_ | refine blk_alloc ?_ _)); refine blk_far ?_ NB278_283.out _; (with_reducible repeat (first | refine blk_drewN ?_ _ | refine blk_drew ?_ | refine blk_alloc ?_ _)); refine blk_far ?_ NB278_283.out _; (with_reducible repeat (first | refine blk_drewN ?_ _ | refine blk_drew ?_ | refine blk_alloc ?_ _)); refine blk_far ?_ NB278_283.out _; (with_reducible repeat (first | refine blk_drewN ?_ _ | refine blk_drew ?_ | refine blk_alloc ?_ _)); exact BK278.out⟩, ⟨by (with_reducible repeat (first | refine blk_drewN ?_ _ | refine blk_drew ?_ | refine blk_alloc ?_ _)); refine blk_put (cs := #[.int .i64 ((rd_T31 t267 x9_2).f0), .string ((rd_T31 t267 x9_2).f1), .int .i64 ((rd_T31 t267 x9_2).f2), .int .i64 0]) ?_ 3 _ rfl; (with_reducible repeat (first | refine blk_drewN ?_ _ | refine blk_drew ?_ | refine blk_alloc ?_ _)); refine blk_put (cs := #[.int .i64 ((rd_T31 t267 x9_2).f0), .string ((rd_T31 t267 x9_2).f1), .int .i64 0, .int .i64 0]) ?_ 2 _ rfl; (with_reducible repeat (first | refine blk_drewN ?_ _ | refine blk_drew ?_ | refine blk_alloc ?_ _)); refine blk_put (cs := #[.int .i64 ((rd_T31 t267 x9_2).f0), .string (⟨#[]⟩ : ByteArray), .int .i64 0, .int .i64 0]) ?_ 1 _ rfl; (with_reducible repeat (first | refine blk_drewN ?_ _ | refine blk_drew ?_ | refine blk_alloc ?_ _)); refine blk_put (cs := #[.int .i64 0, .string (⟨#[]⟩ : ByteArray), .int .i64 0, .int .i64 0]) ?_ 0 _ rfl; (with_reducible repeat (first | refine blk_drewN ?_ _ | refine blk_drew ?_ | refine blk_alloc ?_ _)); exact BK283.out⟩, ⟨by repeat (first | (with_reducible first | exact HB.out | apply below_alloc | apply pw_below_drewN | apply below_drew1 | refine below_set ?_ GE272.out | refine below_set ?_ GE278.out | refine below_set ?_ GE283.out) | exact HB.out)⟩⟩
             next => as_aux_lemma =>
              rw [if_neg c44] at H
              have c44b0 : decide ((t266.size : Int) ≤ ((rd_T31 t267 x9_2).f3)) = false := decide_eq_false c44
              clear c44
              by_cases c48 : x9_2 > 0
              next => as_aux_lemma =>
               rw [if_pos c48] at H
               have c48b0 : decide (0 < x9_2) = true := decide_eq_true c48
               clear c48
               obtain ⟨ji49, hji49⟩ : ∃ j_ : Int, (wrap64 (x9_2 - 1)) = j_ := ⟨_, rfl⟩
               replace H : (if 0 ≤ (ji49) then (if (ji49) < (t267.length : Int) then (laws_FnWords.j2 k2 t266 t267 x8_2 x9_2 (decide (((rd_T31 t267 (ji49)).f3) ≥ ((rd_T31 t267 x9_2).f3))) ((rd_T31 t267 x9_2).f0) ((rd_T31 t267 x9_2).f1) ((rd_T31 t267 x9_2).f2) ((rd_T31 t267 x9_2).f3)) else (none)) else (none)) = some r := by first | (rw [hji49] at H; exact H) | (simp only [hji49] at H ⊢; exact H)
               have hji49w : (IntKind.i64.wrap (x9_2 - 1)) = ji49 := (i64_w _).trans hji49
               by_cases c50 : 0 ≤ (ji49)
               next => as_aux_lemma =>
                rw [if_pos c50] at H
                have c50b0 : decide (0 ≤ (ji49)) = true := decide_eq_true c50
                clear c50
                by_cases c51 : (ji49) < (t267.length : Int)
                next => as_aux_lemma =>
                 rw [if_pos c51] at H
                 have c51b0 : decide ((ji49) < (t267.length : Int)) = true := decide_eq_true c51
                 clear c51
                 have H' := Aside0.mk H
                 clear H
                 have hnb52 := NB283_272.out
                 have hnc52 := NB272_283.out
                 have hnb53 := NB283_278.out
                 have hnc53 := NB278_283.out
                 have hcz54_0 : w36.cell? ⟨gb283, 0, none⟩ = some (.int .i64 0) := (blk_cell BK283.out 0).trans rfl
                 have hcz54_1 : w36.cell? ⟨gb283, 1, none⟩ = some (.string (⟨#[]⟩ : ByteArray)) := (blk_cell BK283.out 1).trans rfl
                 have hcz54_2 : w36.cell? ⟨gb283, 2, none⟩ = some (.int .i64 0) := (blk_cell BK283.out 2).trans rfl
                 have hcz54_3 : w36.cell? ⟨gb283, 3, none⟩ = some (.int .i64 0) := (blk_cell BK283.out 3).trans rfl
                 have hfz54_0 := blk_frozen BK283.out 0
                 have hfz54_1 := blk_frozen BK283.out 1
                 have hfz54_2 := blk_frozen BK283.out 2
                 have hfz54_3 := blk_frozen BK283.out 3
                 have p284 : 0 ≤ ((ji49) : Int) := of_decide_eq_true z3q7
                 have q284 : (ji49) < (t267.length : Int) := of_decide_eq_true z3q7
                 obtain ⟨ad284, e284, hx284_0, hx284_1, hx284_2, hx284_3⟩ := at_T31 (Kd.R_reads' HO_4.out).2.2 (ji49) p284 q284
                 obtain rfl : ad282 = ad284 := (by injection e284)
                 have hn284_0 : ad282.block ≠ gb283 := Kd.own_blk z3q25
                 have hn284_1 : ad282.block ≠ gb283 := Kd.own_blk z3q25
                 have hn284_2 : ad282.block ≠ gb283 := Kd.own_blk z3q25
                 have hn284_3 : ad282.block ≠ gb283 := Kd.own_blk z3q25
                 replace hx284_0 := (cell_far (p := ⟨gb283, 0, none⟩) z3q29 (.int .i64 ((rd_T31 t267 x9_2).f0))).trans hx284_0
                 replace hx284_1 := (cell_far (p := ⟨gb283, 0, none⟩) z3q29 (.int .i64 ((rd_T31 t267 x9_2).f0))).trans hx284_1
                 replace hx284_2 := (cell_far (p := ⟨gb283, 0, none⟩) z3q29 (.int .i64 ((rd_T31 t267 x9_2).f0))).trans hx284_2
                 replace hx284_3 := (cell_far (p := ⟨gb283, 0, none⟩) z3q29 (.int .i64 ((rd_T31 t267 x9_2).f0))).trans hx284_3
                 replace hx284_0 := (cell_far (p := ⟨gb283, 1, none⟩) z3q28 (.string ((rd_T31 t267 x9_2).f1))).trans hx284_0
                 replace hx284_1 := (cell_far (p := ⟨gb283, 1, none⟩) z3q28 (.string ((rd_T31 t267 x9_2).f1))).trans hx284_1
                 replace hx284_2 := (cell_far (p := ⟨gb283, 1, none⟩) z3q28 (.string ((rd_T31 t267 x9_2).f1))).trans hx284_2
                 replace hx284_3 := (cell_far (p := ⟨gb283, 1, none⟩) z3q28 (.string ((rd_T31 t267 x9_2).f1))).trans hx284_3
                 replace hx284_0 := (cell_far (p := ⟨gb283, 2, none⟩) z3q27 (.int .i64 ((rd_T31 t267 x9_2).f2))).trans hx284_0
                 replace hx284_1 := (cell_far (p := ⟨gb283, 2, none⟩) z3q27 (.int .i64 ((rd_T31 t267 x9_2).f2))).trans hx284_1
                 replace hx284_2 := (cell_far (p := ⟨gb283, 2, none⟩) z3q27 (.int .i64 ((rd_T31 t267 x9_2).f2))).trans hx284_2
                 replace hx284_3 := (cell_far (p := ⟨gb283, 2, none⟩) z3q27 (.int .i64 ((rd_T31 t267 x9_2).f2))).trans hx284_3
                 replace hx284_0 := (cell_far (p := ⟨gb283, 3, none⟩) z3q26 (.int .i64 ((rd_T31 t267 x9_2).f3))).trans hx284_0
                 replace hx284_1 := (cell_far (p := ⟨gb283, 3, none⟩) z3q26 (.int .i64 ((rd_T31 t267 x9_2).f3))).trans hx284_1
                 replace hx284_2 := (cell_far (p := ⟨gb283, 3, none⟩) z3q26 (.int .i64 ((rd_T31 t267 x9_2).f3))).trans hx284_2
                 replace hx284_3 := (cell_far (p := ⟨gb283, 3, none⟩) z3q26 (.int .i64 ((rd_T31 t267 x9_2).f3))).trans hx284_3
                 (try have hy284_0 := fun (n_ : Nat) => (show ((((((w36.drewN n_).setCell ⟨gb283, 0, none⟩ (.int .i64 ((rd_T31 t267 x9_2).f0))).setCell ⟨gb283, 1, none⟩ (.string ((rd_T31 t267 x9_2).f1))).setCell ⟨gb283, 2, none⟩ (.int .i64 ((rd_T31 t267 x9_2).f2))).setCell ⟨gb283, 3, none⟩ (.int .i64 ((rd_T31 t267 x9_2).f3)))).cell? _ = some _ from hx284_0))
                 (try have hy284_1 := fun (n_ : Nat) => (show ((((((w36.drewN n_).setCell ⟨gb283, 0, none⟩ (.int .i64 ((rd_T31 t267 x9_2).f0))).setCell ⟨gb283, 1, none⟩ (.string ((rd_T31 t267 x9_2).f1))).setCell ⟨gb283, 2, none⟩ (.int .i64 ((rd_T31 t267 x9_2).f2))).setCell ⟨gb283, 3, none⟩ (.int .i64 ((rd_T31 t267 x9_2).f3)))).cell? _ = some _ from hx284_1))
                 (try have hy284_2 := fun (n_ : Nat) => (show ((((((w36.drewN n_).setCell ⟨gb283, 0, none⟩ (.int .i64 ((rd_T31 t267 x9_2).f0))).setCell ⟨gb283, 1, none⟩ (.string ((rd_T31 t267 x9_2).f1))).setCell ⟨gb283, 2, none⟩ (.int .i64 ((rd_T31 t267 x9_2).f2))).setCell ⟨gb283, 3, none⟩ (.int .i64 ((rd_T31 t267 x9_2).f3)))).cell? _ = some _ from hx284_2))
                 (try have hy284_3 := fun (n_ : Nat) => (show ((((((w36.drewN n_).setCell ⟨gb283, 0, none⟩ (.int .i64 ((rd_T31 t267 x9_2).f0))).setCell ⟨gb283, 1, none⟩ (.string ((rd_T31 t267 x9_2).f1))).setCell ⟨gb283, 2, none⟩ (.int .i64 ((rd_T31 t267 x9_2).f2))).setCell ⟨gb283, 3, none⟩ (.int .i64 ((rd_T31 t267 x9_2).f3)))).cell? _ = some _ from hx284_3))
                 clear hn284_0
                 clear hn284_1
                 clear hn284_2
                 clear hn284_3
                 replace p284 := eq_true p284
                 replace q284 := eq_true q284
                 go_wp2
                 repeat (go_quiet (fail); try go_wp2)
                 go_meet
                 case rel => exact ⟨_, (decide (((rd_T31 t267 (ji49)).f3) ≥ ((rd_T31 t267 x9_2).f3))), (by first | rfl | (simp; done) | (simp only [← hji49] <;> (first | rfl | simp)) | (simp [*]; done)), H', ⟨by have := HJ6.out; have := HK2.out; first | omega | exact Nat.le_refl _⟩, ⟨by (with_reducible repeat (first | apply Kd.R_alloc | apply Kd.R_drewN | apply Kd.R_drew)); exact Kd.R_mono (Kd.R_far (p := ⟨gb283, 3, none⟩) (Kd.R_far (p := ⟨gb283, 2, none⟩) (Kd.R_far (p := ⟨gb283, 1, none⟩) (Kd.R_far (p := ⟨gb283, 0, none⟩) (Kd.R_mono HO_4.out (fun k_ hk => (⟨hk, hk.2⟩ : _ ∧ k_ ≠ gb283))) (fun _ hk => hk.2) (.int .i64 ((rd_T31 t267 x9_2).f0))) (fun _ hk => hk.2) (.string ((rd_T31 t267 x9_2).f1))) (fun _ hk => hk.2) (.int .i64 ((rd_T31 t267 x9_2).f2))) (fun _ hk => hk.2) (.int .i64 ((rd_T31 t267 x9_2).f3))) (fun _ hk => hk.1.2)⟩, ⟨by (with_reducible repeat (first | apply Kd.R_alloc | apply Kd.R_drewN | apply Kd.R_drew)); exact Kd.R_mono (Kd.R_far (p := ⟨gb283, 3, none⟩) (Kd.R_far (p := ⟨gb283, 2, none⟩) (Kd.R_far (p := ⟨gb283, 1, none⟩) (Kd.R_far (p := ⟨gb283, 0, none⟩) (Kd.R_types HO_8.out BK283.out (by decide)) (fun _ hk => hk.2) (.int .i64 ((rd_T31 t267 x9_2).f0))) (fun _ hk => hk.2) (.string ((rd_T31 t267 x9_2).f1))) (fun _ hk => hk.2) (.int .i64 ((rd_T31 t267 x9_2).f2))) (fun _ hk => hk.2) (.int .i64 ((rd_T31 t267 x9_2).f3))) (fun _ hk => trivial)⟩, ⟨by (with_reducible repeat (first | refine blk_drewN ?_ _ | refine blk_drew ?_ | refine blk_alloc ?_ _)); refine blk_far ?_ NB272_283.out _; (with_reducible repeat (first | refine blk_drewN ?_ _ | refine blk_drew ?_ | refine blk_alloc ?_ _)); refine blk_far ?_ NB272_283.out _; (with_reducible repeat (first | refine blk_drewN ?_ _ | refine blk_drew ?_ | refine blk_alloc ?_ _)); refine blk_far ?_ NB272_283.out _; (with_reducible repeat (first | refine blk_drewN ?_ _ | refine blk_drew ?_ | refine blk_alloc ?_ _)); refine blk_far ?_ NB272_283.out _; (with_reducible repeat (first | refine blk_drewN ?_ _ | refine blk_drew ?_ | refine blk_alloc ?_ _)); exact BK272.out⟩, ⟨by (with_reducible repeat (first | refine blk_drewN ?_ _ | refine blk_drew ?_ | refine blk_alloc ?_ _)); refine blk_far ?_ NB278_283.out _; (with_reducible repeat (first | refine blk_drewN ?_ _ | refine blk_drew ?_ | refine blk_alloc ?_ _)); refine blk_far ?_ NB278_283.out _; (with_reducible repeat (first | refine blk_drewN ?_ _ | refine blk_drew ?_ | refine blk_alloc ?_ _)); refine blk_far ?_ NB278_283.out _; (with_reducible repeat (first | refine blk_drewN ?_ _ | refine blk_drew ?_ | refine blk_alloc ?_ _)); refine blk_far ?_ NB278_283.out _; (with_reducible repeat (first | refine blk_drewN ?_ _ | refine blk_drew ?_ | refine blk_alloc ?_ _)); exact BK278.out⟩, ⟨by (with_reducible repeat (first | refine blk_drewN ?_ _ | refine blk_drew ?_ | refine blk_alloc ?_ _)); refine blk_put (cs := #[.int .i64 ((rd_T31 t267 x9_2).f0), .string ((rd_T31 t267 x9_2).f1), .int .i64 ((rd_T31 t267 x9_2).f2), .int .i64 0]) ?_ 3 _ rfl; (with_reducible repeat (first | refine blk_drewN ?_ _ | refine blk_drew ?_ | refine blk_alloc ?_ _)); refine blk_put (cs := #[.int .i64 ((rd_T31 t267 x9_2).f0), .string ((rd_T31 t267 x9_2).f1), .int .i64 0, .int .i64 0]) ?_ 2 _ rfl; (with_reducible repeat (first | refine blk_drewN ?_ _ | refine blk_drew ?_ | refine blk_alloc ?_ _)); refine blk_put (cs := #[.int .i64 ((rd_T31 t267 x9_2).f0), .string (⟨#[]⟩ : ByteArray), .int .i64 0, .int .i64 0]) ?_ 1 _ rfl; (with_reducible repeat (first | refine blk_drewN ?_ _ | refine blk_drew ?_ | refine blk_alloc ?_ _)); refine blk_put (cs := #[.int .i64 0, .string (⟨#[]⟩ : ByteArray), .int .i64 0, .int .i64 0]) ?_ 0 _ rfl; (with_reducible repeat (first | refine blk_drewN ?_ _ | refine blk_drew ?_ | refine blk_alloc ?_ _)); exact BK283.out⟩, ⟨by repeat (first | (with_reducible first | exact HB.out | apply below_alloc | apply pw_below_drewN | apply below_drew1 | refine below_set ?_ GE272.out | refine below_set ?_ GE278.out | refine below_set ?_ GE283.out) | exact HB.out)⟩⟩
                next => as_aux_lemma =>
                 rw [if_neg c51] at H
                 exact absurd H (by simp)
               next => as_aux_lemma =>
                rw [if_neg c50] at H
                exact absurd H (by simp)
              next => as_aux_lemma =>
               rw [if_neg c48] at H
               have c48b0 : decide (0 < x9_2) = false := decide_eq_false c48
               clear c48
               have H' := Aside0.mk H
               clear H
               have hnb55 := NB283_272.out
               have hnc55 := NB272_283.out
               have hnb56 := NB283_278.out
               have hnc56 := NB278_283.out
               have hcz57_0 : w36.cell? ⟨gb283, 0, none⟩ = some (.int .i64 0) := (blk_cell BK283.out 0).trans rfl
               have hcz57_1 : w36.cell? ⟨gb283, 1, none⟩ = some (.string (⟨#[]⟩ : ByteArray)) := (blk_cell BK283.out 1).trans rfl
               have hcz57_2 : w36.cell? ⟨gb283, 2, none⟩ = some (.int .i64 0) := (blk_cell BK283.out 2).trans rfl
               have hcz57_3 : w36.cell? ⟨gb283, 3, none⟩ = some (.int .i64 0) := (blk_cell BK283.out 3).trans rfl
               have hfz57_0 := blk_frozen BK283.out 0
               have hfz57_1 := blk_frozen BK283.out 1
               have hfz57_2 := blk_frozen BK283.out 2
               have hfz57_3 := blk_frozen BK283.out 3
               go_wp2
               repeat (go_quiet (fail); try go_wp2)
               go_meet
               case rel => exact ⟨_, (false), z3q19, H', ⟨by have := HJ6.out; have := HK2.out; first | omega | exact Nat.le_refl _⟩, ⟨by (with_reducible repeat (first | apply Kd.R_alloc | apply Kd.R_drewN | apply Kd.R_drew)); exact Kd.R_mono (Kd.R_far (p := ⟨gb283, 3, none⟩) (Kd.R_far (p := ⟨gb283, 2, none⟩) (Kd.R_far (p := ⟨gb283, 1, none⟩) (Kd.R_far (p := ⟨gb283, 0, none⟩) (Kd.R_mono HO_4.out (fun k_ hk => (⟨hk, hk.2⟩ : _ ∧ k_ ≠ gb283))) (fun _ hk => hk.2) (.int .i64 ((rd_T31 t267 x9_2).f0))) (fun _ hk => hk.2) (.string ((rd_T31 t267 x9_2).f1))) (fun _ hk => hk.2) (.int .i64 ((rd_T31 t267 x9_2).f2))) (fun _ hk => hk.2) (.int .i64 ((rd_T31 t267 x9_2).f3))) (fun _ hk => hk.1.2)⟩, ⟨by (with_reducible repeat (first | apply Kd.R_alloc | apply Kd.R_drewN | apply Kd.R_drew)); exact Kd.R_mono (Kd.R_far (p := ⟨gb283, 3, none⟩) (Kd.R_far (p := ⟨gb283, 2, none⟩) (Kd.R_far (p := ⟨gb283, 1, none⟩) (Kd.R_far (p := ⟨gb283, 0, none⟩) (Kd.R_types HO_8.out BK283.out (by decide)) (fun _ hk => hk.2) (.int .i64 ((rd_T31 t267 x9_2).f0))) (fun _ hk => hk.2) (.string ((rd_T31 t267 x9_2).f1))) (fun _ hk => hk.2) (.int .i64 ((rd_T31 t267 x9_2).f2))) (fun _ hk => hk.2) (.int .i64 ((rd_T31 t267 x9_2).f3))) (fun _ hk => trivial)⟩, ⟨by (with_reducible repeat (first | refine blk_drewN ?_ _ | refine blk_drew ?_ | refine blk_alloc ?_ _)); refine blk_far ?_ NB272_283.out _; (with_reducible repeat (first | refine blk_drewN ?_ _ | refine blk_drew ?_ | refine blk_alloc ?_ _)); refine blk_far ?_ NB272_283.out _; (with_reducible repeat (first | refine blk_drewN ?_ _ | refine blk_drew ?_ | refine blk_alloc ?_ _)); refine blk_far ?_ NB272_283.out _; (with_reducible repeat (first | refine blk_drewN ?_ _ | refine blk_drew ?_ | refine blk_alloc ?_ _)); refine blk_far ?_ NB272_283.out _; (with_reducible repeat (first | refine blk_drewN ?_ _ | refine blk_drew ?_ | refine blk_alloc ?_ _)); exact BK272.out⟩, ⟨by (with_reducible repeat (first | refine blk_drewN ?_ _ | refine blk_drew ?_ | refine blk_alloc ?_ _)); refine blk_far ?_ NB278_283.out _; (with_reducible repeat (first | refine blk_drewN ?_ _ | refine blk_drew ?_ | refine blk_alloc ?_ _)); refine blk_far ?_ NB278_283.out _; (with_reducible repeat (first | refine blk_drewN ?_ _ | refine blk_drew ?_ | refine blk_alloc ?_ _)); refine blk_far ?_ NB278_283.out _; (with_reducible repeat (first | refine blk_drewN ?_ _ | refine blk_drew ?_ | refine blk_alloc ?_ _)); refine blk_far ?_ NB278_283.out _; (with_reducible repeat (first | refine blk_drewN ?_ _ | refine blk_drew ?_ | refine blk_alloc ?_ _)); exact BK278.out⟩, ⟨by (with_reducible repeat (first | refine blk_drewN ?_ _ | refine blk_drew ?_ | refine blk_alloc ?_ _)); refine blk_put (cs := #[.int .i64 ((rd_T31 t267 x9_2).f0), .string ((rd_T31 t267 x9_2).f1), .int .i64 ((rd_T31 t267 x9_2).f2), .int .i64 0]) ?_ 3 _ rfl; (with_reducible repeat (first | refine blk_drewN ?_ _ | refine blk_drew ?_ | refine blk_alloc ?_ _)); refine blk_put (cs := #[.int .i64 ((rd_T31 t267 x9_2).f0), .string ((rd_T31 t267 x9_2).f1), .int .i64 0, .int .i64 0]) ?_ 2 _ rfl; (with_reducible repeat (first | refine blk_drewN ?_ _ | refine blk_drew ?_ | refine blk_alloc ?_ _)); refine blk_put (cs := #[.int .i64 ((rd_T31 t267 x9_2).f0), .string (⟨#[]⟩ : ByteArray), .int .i64 0, .int .i64 0]) ?_ 1 _ rfl; (with_reducible repeat (first | refine blk_drewN ?_ _ | refine blk_drew ?_ | refine blk_alloc ?_ _)); refine blk_put (cs := #[.int .i64 0, .string (⟨#[]⟩ : ByteArray), .int .i64 0, .int .i64 0]) ?_ 0 _ rfl; (with_reducible repeat (first | refine blk_drewN ?_ _ | refine blk_drew ?_ | refine blk_alloc ?_ _)); exact BK283.out⟩, ⟨by repeat (first | (with_reducible first | exact HB.out | apply below_alloc | apply pw_below_drewN | apply below_drew1 | refine below_set ?_ GE272.out | refine below_set ?_ GE278.out | refine below_set ?_ GE283.out) | exact HB.out)⟩⟩
           case rest =>
            clear HC34
            try clear c1
            try clear c2
            try clear p2
            try clear q2
            try clear hx2
            try clear c3
            try clear c4
            try clear c5
            try clear p6
            try clear c14
            try clear c16
            try clear c16b0
            try clear c17
            try clear c20
            try clear c25
            try clear c26
            try clear c26b0
            try clear c26b1
            try clear c27
            try clear p28
            try clear q28
            try clear hx28
            try clear c31
            try clear c31b0
            try clear c32
            try clear c32b0
            try clear c33
            try clear c33b0
            try clear c37
            try clear c38
            try clear c40
            try clear c40b0
            try clear c41
            try clear c42
            try clear c44
            try clear c44b0
            try clear c45
            try clear c46
            try clear c48
            try clear c48b0
            try clear c50
            try clear c50b0
            try clear c51
            try clear c51b0
            try clear c52
            try clear c53
            try clear c55
            try clear c56
            try clear hcz11_0
            try clear hcz11_1
            try clear hcz15_0
            try clear hcz15_1
            try clear hcz18_0
            try clear hcz18_1
            try clear hcz19_0
            try clear hcz19_1
            try clear hcz21_0
            try clear hcz21_1
            try clear hcz22_0
            try clear hcz22_1
            try clear hcz28_0
            try clear hcz28_1
            try clear hcz39_0
            try clear hcz39_1
            try clear hcz39_2
            try clear hcz39_3
            try clear hcz43_0
            try clear hcz43_1
            try clear hcz43_2
            try clear hcz43_3
            try clear hcz47_0
            try clear hcz47_1
            try clear hcz47_2
            try clear hcz47_3
            try clear hcz54_0
            try clear hcz54_1
            try clear hcz54_2
            try clear hcz54_3
            try clear hcz57_0
            try clear hcz57_1
            try clear hcz57_2
            try clear hcz57_3
            try clear hfz11_0
            try clear hfz11_1
            try clear hfz15_0
            try clear hfz15_1
            try clear hfz18_0
            try clear hfz18_1
            try clear hfz19_0
            try clear hfz19_1
            try clear hfz21_0
            try clear hfz21_1
            try clear hfz22_0
            try clear hfz22_1
            try clear hfz28_0
            try clear hfz28_1
            try clear hfz39_0
            try clear hfz39_1
            try clear hfz39_2
            try clear hfz39_3
            try clear hfz43_0
            try clear hfz43_1
            try clear hfz43_2
            try clear hfz43_3
            try clear hfz47_0
            try clear hfz47_1
            try clear hfz47_2
            try clear hfz47_3
            try clear hfz54_0
            try clear hfz54_1
            try clear hfz54_2
            try clear hfz54_3
            try clear hfz57_0
            try clear hfz57_1
            try clear hfz57_2
            try clear hfz57_3
            try clear hx282_0
            try clear hx282_1
            try clear hx282_2
            try clear hx282_3
            try clear hx284_0
            try clear hx284_1
            try clear hx284_2
            try clear hx284_3
            try clear p2
            try clear p282
            try clear p284
            try clear q282
            try clear q284
            obtain ⟨kq, x82_33, rfl, HA, HJ33, HO_4, HO_8, BK272, BK278, BK283, HB⟩ := hcut
            cases kq with
            | zero => exact absurd HA.out (by simp [laws_FnWords.j2])
            | succ kj33 =>
             have H := HA.out
             clear HA
             simp only [laws_FnWords.j2] at H
             by_cases c58 : x82_33 = true
             next => as_aux_lemma =>
              subst c58
              have H1 : (some false) = some r := by rw [if_pos rfl] at H; exact H
              clear H
              have H := H1
              clear H1
              obtain rfl := Option.some.inj H
              go_wp2
              repeat (go_quiet (fail); try go_wp2)
              go_ret
              exact ⟨by first | rfl | (simp [errW_none, errW_some] <;> rfl) | (simp [*, errW_none, errW_some] <;> rfl), by repeat (first | (with_reducible first | exact HB.out | apply below_alloc | apply pw_below_drewN | apply below_drew1 | refine below_set ?_ GE272.out | refine below_set ?_ GE278.out | refine below_set ?_ GE283.out) | exact HB.out)⟩
             next => as_aux_lemma =>
              replace c58 := Bool.eq_false_iff.mpr c58
              subst c58
              have H1 : (if 0 ≤ (wrap64 (x9_2 + 1)) then (if (wrap64 (x9_2 + 1)) < (t267.length : Int) then (laws_FnWords.l1 kj33 t266 t267 x8_2 x9_2 ((rd_T31 t267 (wrap64 (x9_2 + 1))).f3) ((rd_T31 t267 x9_2).f0) ((rd_T31 t267 x9_2).f1) ((rd_T31 t267 x9_2).f2) ((rd_T31 t267 x9_2).f3)) else (none)) else (none)) = some r := by rw [if_neg (show ¬ (false = true) by decide)] at H; exact H
              clear H
              have H := H1
              clear H1
              obtain ⟨ji59, hji59⟩ : ∃ j_ : Int, (wrap64 (x9_2 + 1)) = j_ := ⟨_, rfl⟩
              replace H : (if 0 ≤ (ji59) then (if (ji59) < (t267.length : Int) then (laws_FnWords.l1 kj33 t266 t267 x8_2 x9_2 ((rd_T31 t267 (ji59)).f3) ((rd_T31 t267 x9_2).f0) ((rd_T31 t267 x9_2).f1) ((rd_T31 t267 x9_2).f2) ((rd_T31 t267 x9_2).f3)) else (none)) else (none)) = some r := by first | (rw [hji59] at H; exact H) | (simp only [hji59] at H ⊢; exact H)
              (try rw [hji59] at c31b0)
              have hji59w : (IntKind.i64.wrap (x9_2 + 1)) = ji59 := (i64_w _).trans hji59
              by_cases c60 : 0 ≤ (ji59)
              next => as_aux_lemma =>
               rw [if_pos c60] at H
               have c60b0 : decide (0 ≤ (ji59)) = true := decide_eq_true c60
               clear c60
               by_cases c61 : (ji59) < (t267.length : Int)
               next => as_aux_lemma =>
                rw [if_pos c61] at H
                have c61b0 : decide ((ji59) < (t267.length : Int)) = true := decide_eq_true c61
                clear c61
                have HC62 := Aside0.mk H
                clear H
                have p285 : 0 ≤ ((ji59) : Int) := of_decide_eq_true z3q7
                have q285 : (ji59) < (t267.length : Int) := of_decide_eq_true z3q7
                obtain ⟨ad285, e285, hx285_0, hx285_1, hx285_2, hx285_3⟩ := at_T31 (Kd.R_reads' HO_4.out).2.2 (ji59) p285 q285
                obtain rfl : ad282 = ad285 := (by injection e285)
                replace p285 := eq_true p285
                replace q285 := eq_true q285
                go_upto_block 2 with (fail)
                repeat (go_quiet (fail); go_upto_block 2 with (fail))
                go_cut [] (fun wc => ∃ (kq : Nat), Aside0 (laws_FnWords.j4 kq t266 t267 x8_2 x9_2 ((rd_T31 t267 x9_2).f0) ((rd_T31 t267 x9_2).f1) ((rd_T31 t267 x9_2).f2) ((rd_T31 t267 x9_2).f3) = some r) ∧ Aside0 (kq ≤ kj33) ∧ Aside0 (Kd.R k31 31 wc w.heap.size (fun k_ => k_ ≠ gb283) (.slice (some ad282) t267.length co35) t267) ∧ Aside0 (Kd.R (Kd.int .u8) 5 wc w.heap.size (fun _ => True) u8 x8_2) ∧ Aside0 (wc.heap[gb272]? = some (.cells #[.int .i64 t270, .int .i64 t271] 27 (0, 0))) ∧ Aside0 (wc.heap[gb278]? = some (.cells #[.int .i64 t276, .int .i64 t277] 27 (0, 0))) ∧ Aside0 (wc.heap[gb283]? = some (.cells #[.int .i64 ((rd_T31 t267 x9_2).f0), .string ((rd_T31 t267 x9_2).f1), .int .i64 ((rd_T31 t267 x9_2).f2), .int .i64 ((rd_T31 t267 x9_2).f3)] 31 (0, 0))) ∧ Aside0 (Below w.heap.size w wc))
                case first =>
                 have H := HC62.out
                 clear HC62
                 have H' := Aside0.mk H
                 clear H
                 go_wp2
                 repeat (go_quiet (fail); try go_wp2)
                 go_loopg [11] kj33 (fun kq v11 w' => ∃ (x11_4 : Int), v11 = .int .i64 x11_4 ∧ Aside0 (laws_FnWords.l1 kq t266 t267 x8_2 x9_2 x11_4 ((rd_T31 t267 x9_2).f0) ((rd_T31 t267 x9_2).f1) ((rd_T31 t267 x9_2).f2) ((rd_T31 t267 x9_2).f3) = some r) ∧ Aside0 (kq ≤ kj33) ∧ Aside0 (Kd.R k31 31 w' w.heap.size (fun k_ => k_ ≠ gb283) (.slice (some ad282) t267.length co35) t267) ∧ Aside0 (Kd.R (Kd.int .u8) 5 w' w.heap.size (fun _ => True) u8 x8_2) ∧ Aside0 (w'.heap[gb272]? = some (.cells #[.int .i64 t270, .int .i64 t271] 27 (0, 0))) ∧ Aside0 (w'.heap[gb278]? = some (.cells #[.int .i64 t276, .int .i64 t277] 27 (0, 0))) ∧ Aside0 (w'.heap[gb283]? = some (.cells #[.int .i64 ((rd_T31 t267 x9_2).f0), .string ((rd_T31 t267 x9_2).f1), .int .i64 ((rd_T31 t267 x9_2).f2), .int .i64 ((rd_T31 t267 x9_2).f3)] 31 (0, 0))) ∧ Aside0 (Below w.heap.size w w'))
                 case atStart => exact ⟨((rd_T31 t267 (ji59)).f3), (by first | rfl | (simp; done) | (simp only [← hji59] <;> (first | rfl | simp)) | (simp [*]; done)), H', ⟨Nat.le_refl _⟩, ⟨by (with_reducible repeat (first | apply Kd.R_alloc | apply Kd.R_drewN | apply Kd.R_drew)); exact HO_4.out⟩, ⟨by (with_reducible repeat (first | apply Kd.R_alloc | apply Kd.R_drewN | apply Kd.R_drew)); exact HO_8.out⟩, ⟨by (with_reducible repeat (first | refine blk_drewN ?_ _ | refine blk_drew ?_ | refine blk_alloc ?_ _)); exact BK272.out⟩, ⟨by (with_reducible repeat (first | refine blk_drewN ?_ _ | refine blk_drew ?_ | refine blk_alloc ?_ _)); exact BK278.out⟩, ⟨by (with_reducible repeat (first | refine blk_drewN ?_ _ | refine blk_drew ?_ | refine blk_alloc ?_ _)); exact BK283.out⟩, ⟨by repeat (first | (with_reducible first | exact HB.out | apply below_alloc | apply pw_below_drewN | apply below_drew1 | refine below_set ?_ GE272.out | refine below_set ?_ GE278.out | refine below_set ?_ GE283.out) | exact HB.out)⟩⟩
                 case round =>
                  clear H'
                  try clear c1
                  try clear c2
                  try clear p2
                  try clear q2
                  try clear hx2
                  try clear c3
                  try clear c4
                  try clear c5
                  try clear c6
                  try clear p6
                  try clear c14
                  try clear c16
                  try clear c16b0
                  try clear c17
                  try clear c20
                  try clear c25
                  try clear c26
                  try clear c26b0
                  try clear c26b1
                  try clear c27
                  try clear p28
                  try clear q28
                  try clear hx28
                  try clear c31
                  try clear c31b0
                  try clear c32
                  try clear c32b0
                  try clear c33
                  try clear c33b0
                  try clear c37
                  try clear c38
                  try clear c40
                  try clear c40b0
                  try clear c41
                  try clear c42
                  try clear c44
                  try clear c44b0
                  try clear c45
                  try clear c46
                  try clear c48
                  try clear c48b0
                  try clear c50
                  try clear c50b0
                  try clear c51
                  try clear c51b0
                  try clear c52
                  try clear c53
                  try clear c55
                  try clear c56
                  try clear c58
                  try clear c60
                  try clear c60b0
                  try clear c61
                  try clear c61b0
                  try clear hcz11_0
                  try clear hcz11_1
                  try clear hcz15_0
                  try clear hcz15_1
                  try clear hcz18_0
                  try clear hcz18_1
                  try clear hcz19_0
                  try clear hcz19_1
                  try clear hcz21_0
                  try clear hcz21_1
                  try clear hcz22_0
                  try clear hcz22_1
                  try clear hcz28_0
                  try clear hcz28_1
                  try clear hcz39_0
                  try clear hcz39_1
                  try clear hcz39_2
                  try clear hcz39_3
                  try clear hcz43_0
                  try clear hcz43_1
                  try clear hcz43_2
                  try clear hcz43_3
                  try clear hcz47_0
                  try clear hcz47_1
                  try clear hcz47_2
                  try clear hcz47_3
                  try clear hcz54_0
                  try clear hcz54_1
                  try clear hcz54_2
                  try clear hcz54_3
                  try clear hcz57_0
                  try clear hcz57_1
                  try clear hcz57_2
                  try clear hcz57_3
                  try clear hfz11_0
                  try clear hfz11_1
                  try clear hfz15_0
                  try clear hfz15_1
                  try clear hfz18_0
                  try clear hfz18_1
                  try clear hfz19_0
                  try clear hfz19_1
                  try clear hfz21_0
                  try clear hfz21_1
                  try clear hfz22_0
                  try clear hfz22_1
                  try clear hfz28_0
                  try clear hfz28_1
                  try clear hfz39_0
                  try clear hfz39_1
                  try clear hfz39_2
                  try clear hfz39_3
                  try clear hfz43_0
                  try clear hfz43_1
                  try clear hfz43_2
                  try clear hfz43_3
                  try clear hfz47_0
                  try clear hfz47_1
                  try clear hfz47_2
                  try clear hfz47_3
                  try clear hfz54_0
                  try clear hfz54_1
                  try clear hfz54_2
                  try clear hfz54_3
                  try clear hfz57_0
                  try clear hfz57_1
                  try clear hfz57_2
                  try clear hfz57_3
                  try clear hx282_0
                  try clear hx282_1
                  try clear hx282_2
                  try clear hx282_3
                  try clear hx284_0
                  try clear hx284_1
                  try clear hx284_2
                  try clear hx284_3
                  try clear hx285_0
                  try clear hx285_1
                  try clear hx285_2
                  try clear hx285_3
                  try clear p2
                  try clear p28
                  try clear p282
                  try clear p284
                  try clear p285
                  try clear p6
                  try clear q2
                  try clear q28
                  try clear q282
                  try clear q284
                  try clear q285
                  obtain ⟨x11_4, rfl, HA, HK4, HO_4, HO_8, BK272, BK278, BK283, HB⟩ := hrel
                  cases gk with
                  | zero => exact absurd HA.out (by simp [laws_FnWords.l1])
                  | succ k4 =>
                   have H := HA.out
                   clear HA
                   simp only [laws_FnWords.l1] at H
                   by_cases c63 : x11_4 > ((rd_T31 t267 x9_2).f3)
                   next => as_aux_lemma =>
                    rw [if_pos c63] at H
                    have c63b0 : decide (((rd_T31 t267 x9_2).f3) < x11_4) = true := decide_eq_true c63
                    clear c63
                    (first | rw [c63b0] | (simp only [i64_w, i32_w]; rw [c63b0]) | skip)
                    obtain ⟨ji64, hji64⟩ : ∃ j_ : Int, (wrap64 (x11_4 - 1)) = j_ := ⟨_, rfl⟩
                    replace H : (if 0 ≤ (ji64) then (if (ji64) < (t266.size : Int) then (if (bt t266 (ji64)) = 32 then (laws_FnWords.l1 k4 t266 t267 x8_2 x9_2 ji64 ((rd_T31 t267 x9_2).f0) ((rd_T31 t267 x9_2).f1) ((rd_T31 t267 x9_2).f2) ((rd_T31 t267 x9_2).f3)) else (if (bt t266 (ji64)) = 9 then (laws_FnWords.l1 k4 t266 t267 x8_2 x9_2 ji64 ((rd_T31 t267 x9_2).f0) ((rd_T31 t267 x9_2).f1) ((rd_T31 t267 x9_2).f2) ((rd_T31 t267 x9_2).f3)) else (if (bt t266 (ji64)) = 10 then (laws_FnWords.l1 k4 t266 t267 x8_2 x9_2 ji64 ((rd_T31 t267 x9_2).f0) ((rd_T31 t267 x9_2).f1) ((rd_T31 t267 x9_2).f2) ((rd_T31 t267 x9_2).f3)) else (laws_FnWords.j4 k4 t266 t267 x8_2 x9_2 ((rd_T31 t267 x9_2).f0) ((rd_T31 t267 x9_2).f1) ((rd_T31 t267 x9_2).f2) ((rd_T31 t267 x9_2).f3))))) else (none)) else (none)) = some r := by first | (rw [hji64] at H; exact H) | (simp only [hji64] at H ⊢; exact H)
                    have hji64w : (IntKind.i64.wrap (x11_4 - 1)) = ji64 := (i64_w _).trans hji64
                    by_cases c65 : 0 ≤ (ji64)
                    next => as_aux_lemma =>
                     rw [if_pos c65] at H
                     have c65b0 : decide (0 ≤ (ji64)) = true := decide_eq_true c65
                     clear c65
                     by_cases c66 : (ji64) < (t266.size : Int)
                     next => as_aux_lemma =>
                      rw [if_pos c66] at H
                      have c66b0 : decide ((ji64) < (t266.size : Int)) = true := decide_eq_true c66
                      clear c66
                      by_cases c68 : (bt t266 (ji64)) = 32
                      next => as_aux_lemma =>
                       rw [if_pos c68] at H
                       have c68b0 : ((bt t266 (ji64)) == 32) = true := beq_iff_eq.mpr c68
                       have c68b1 : ((bt t266 (ji64)) != 32) = false := bne_eq_false_iff_eq.mpr c68
                       clear c68
                       have H' := Aside0.mk H
                       clear H
                       have hnb69 := NB283_272.out
                       have hnc69 := NB272_283.out
                       have hnb70 := NB283_278.out
                       have hnc70 := NB278_283.out
                       have hcz71_0 : wr.cell? ⟨gb283, 0, none⟩ = some (.int .i64 ((rd_T31 t267 x9_2).f0)) := (blk_cell BK283.out 0).trans rfl
                       have hcz71_1 : wr.cell? ⟨gb283, 1, none⟩ = some (.string ((rd_T31 t267 x9_2).f1)) := (blk_cell BK283.out 1).trans rfl
                       have hcz71_2 : wr.cell? ⟨gb283, 2, none⟩ = some (.int .i64 ((rd_T31 t267 x9_2).f2)) := (blk_cell BK283.out 2).trans rfl
                       have hcz71_3 : wr.cell? ⟨gb283, 3, none⟩ = some (.int .i64 ((rd_T31 t267 x9_2).f3)) := (blk_cell BK283.out 3).trans rfl
                       have hfz71_0 := blk_frozen BK283.out 0
                       have hfz71_1 := blk_frozen BK283.out 1
                       have hfz71_2 := blk_frozen BK283.out 2
                       have hfz71_3 := blk_frozen BK283.out 3
                       have p67 : 0 ≤ ((ji64) : Int) := of_decide_eq_true z3q7
                       have q67 : (ji64) < (t266.size : Int) := of_decide_eq_true z3q7
                       have hx67 := bt_at t266 (ji64)
                       replace p67 := eq_true p67
                       replace q67 := eq_true q67
                       go_wp2
                       repeat (go_quiet (fail); try go_wp2)
                       go_roundg k4
                       case measure => have := HJ6.out; have := HK2.out; have := HJ33.out; have := HK4.out; omega
                       case rel => exact ⟨(ji64), z3q31, H', ⟨by have := HJ6.out; have := HK2.out; have := HJ33.out; have := HK4.out; omega⟩, ⟨by (with_reducible repeat (first | apply Kd.R_alloc | apply Kd.R_drewN | apply Kd.R_drew)); exact HO_4.out⟩, ⟨by (with_reducible repeat (first | apply Kd.R_alloc | apply Kd.R_drewN | apply Kd.R_drew)); exact HO_8.out⟩, ⟨by (with_reducible repeat (first | refine blk_drewN ?_ _ | refine blk_drew ?_ | refine blk_alloc ?_ _)); exact BK272.out⟩, ⟨by (with_reducible repeat (first | refine blk_drewN ?_ _ | refine blk_drew ?_ | refine blk_alloc ?_ _)); exact BK278.out⟩, ⟨by (with_reducible repeat (first | refine blk_drewN ?_ _ | refine blk_drew ?_ | refine blk_alloc ?_ _)); exact BK283.out⟩, ⟨by repeat (first | (with_reducible first | exact HB.out | apply below_alloc | apply pw_below_drewN | apply below_drew1 | refine below_set ?_ GE272.out | refine below_set ?_ GE278.out | refine below_set ?_ GE283.out) | exact HB.out)⟩⟩
                      next => as_aux_lemma =>
                       rw [if_neg c68] at H
                       have c68b0 : ((bt t266 (ji64)) == 32) = false := beq_eq_false_iff_ne.mpr c68
                       have c68b1 : ((bt t266 (ji64)) != 32) = true := bne_iff_ne.mpr c68
                       by_cases c73 : (bt t266 (ji64)) = 9
                       next => as_aux_lemma =>
                        rw [if_pos c73] at H
                        have c73b0 : ((bt t266 (ji64)) == 9) = true := beq_iff_eq.mpr c73
                        have c73b1 : ((bt t266 (ji64)) != 9) = false := bne_eq_false_iff_eq.mpr c73
                        clear c73
                        have H' := Aside0.mk H
                        clear H
                        have hnb74 := NB283_272.out
                        have hnc74 := NB272_283.out
                        have hnb75 := NB283_278.out
                        have hnc75 := NB278_283.out
                        have hcz76_0 : wr.cell? ⟨gb283, 0, none⟩ = some (.int .i64 ((rd_T31 t267 x9_2).f0)) := (blk_cell BK283.out 0).trans rfl
                        have hcz76_1 : wr.cell? ⟨gb283, 1, none⟩ = some (.string ((rd_T31 t267 x9_2).f1)) := (blk_cell BK283.out 1).trans rfl
                        have hcz76_2 : wr.cell? ⟨gb283, 2, none⟩ = some (.int .i64 ((rd_T31 t267 x9_2).f2)) := (blk_cell BK283.out 2).trans rfl
                        have hcz76_3 : wr.cell? ⟨gb283, 3, none⟩ = some (.int .i64 ((rd_T31 t267 x9_2).f3)) := (blk_cell BK283.out 3).trans rfl
                        have hfz76_0 := blk_frozen BK283.out 0
                        have hfz76_1 := blk_frozen BK283.out 1
                        have hfz76_2 := blk_frozen BK283.out 2
                        have hfz76_3 := blk_frozen BK283.out 3
                        have p67 : 0 ≤ ((ji64) : Int) := of_decide_eq_true z3q7
                        have q67 : (ji64) < (t266.size : Int) := of_decide_eq_true z3q7
                        have hx67 := bt_at t266 (ji64)
                        replace p67 := eq_true p67
                        replace q67 := eq_true q67
                        have p72 : 0 ≤ ((ji64) : Int) := of_decide_eq_true z3q7
                        have q72 : (ji64) < (t266.size : Int) := of_decide_eq_true z3q7
                        have hx72 := bt_at t266 (ji64)
                        replace p72 := eq_true p72
                        replace q72 := eq_true q72
                        go_wp2
                        repeat (go_quiet (fail); try go_wp2)
                        go_roundg k4
                        case measure => have := HJ6.out; have := HK2.out; have := HJ33.out; have := HK4.out; omega
                        case rel => exact ⟨(ji64), z3q31, H', ⟨by have := HJ6.out; have := HK2.out; have := HJ33.out; have := HK4.out; omega⟩, ⟨by (with_reducible repeat (first | apply Kd.R_alloc | apply Kd.R_drewN | apply Kd.R_drew)); exact HO_4.out⟩, ⟨by (with_reducible repeat (first | apply Kd.R_alloc | apply Kd.R_drewN | apply Kd.R_drew)); exact HO_8.out⟩, ⟨by (with_reducible repeat (first | refine blk_drewN ?_ _ | refine blk_drew ?_ | refine blk_alloc ?_ _)); exact BK272.out⟩, ⟨by (with_reducible repeat (first | refine blk_drewN ?_ _ | refine blk_drew ?_ | refine blk_alloc ?_ _)); exact BK278.out⟩, ⟨by (with_reducible repeat (first | refine blk_drewN ?_ _ | refine blk_drew ?_ | refine blk_alloc ?_ _)); exact BK283.out⟩, ⟨by repeat (first | (with_reducible first | exact HB.out | apply below_alloc | apply pw_below_drewN | apply below_drew1 | refine below_set ?_ GE272.out | refine below_set ?_ GE278.out | refine below_set ?_ GE283.out) | exact HB.out)⟩⟩
                       next => as_aux_lemma =>
                        rw [if_neg c73] at H
                        have c73b0 : ((bt t266 (ji64)) == 9) = false := beq_eq_false_iff_ne.mpr c73
                        have c73b1 : ((bt t266 (ji64)) != 9) = true := bne_iff_ne.mpr c73
                        by_cases c78 : (bt t266 (ji64)) = 10
                        next => as_aux_lemma =>
                         rw [if_pos c78] at H
                         have c78b0 : ((bt t266 (ji64)) == 10) = true := beq_iff_eq.mpr c78
                         have c78b1 : ((bt t266 (ji64)) != 10) = false := bne_eq_false_iff_eq.mpr c78
                         clear c78
                         have H' := Aside0.mk H
                         clear H
                         have hnb79 := NB283_272.out
                         have hnc79 := NB272_283.out
                         have hnb80 := NB283_278.out
                         have hnc80 := NB278_283.out
                         have hcz81_0 : wr.cell? ⟨gb283, 0, none⟩ = some (.int .i64 ((rd_T31 t267 x9_2).f0)) := (blk_cell BK283.out 0).trans rfl
                         have hcz81_1 : wr.cell? ⟨gb283, 1, none⟩ = some (.string ((rd_T31 t267 x9_2).f1)) := (blk_cell BK283.out 1).trans rfl
                         have hcz81_2 : wr.cell? ⟨gb283, 2, none⟩ = some (.int .i64 ((rd_T31 t267 x9_2).f2)) := (blk_cell BK283.out 2).trans rfl
                         have hcz81_3 : wr.cell? ⟨gb283, 3, none⟩ = some (.int .i64 ((rd_T31 t267 x9_2).f3)) := (blk_cell BK283.out 3).trans rfl
                         have hfz81_0 := blk_frozen BK283.out 0
                         have hfz81_1 := blk_frozen BK283.out 1
                         have hfz81_2 := blk_frozen BK283.out 2
                         have hfz81_3 := blk_frozen BK283.out 3
                         have p67 : 0 ≤ ((ji64) : Int) := of_decide_eq_true z3q7
                         have q67 : (ji64) < (t266.size : Int) := of_decide_eq_true z3q7
                         have hx67 := bt_at t266 (ji64)
                         replace p67 := eq_true p67
                         replace q67 := eq_true q67
                         have p72 : 0 ≤ ((ji64) : Int) := of_decide_eq_true z3q7
                         have q72 : (ji64) < (t266.size : Int) := of_decide_eq_true z3q7
                         have hx72 := bt_at t266 (ji64)
                         replace p72 := eq_true p72
                         replace q72 := eq_true q72
                         have p77 : 0 ≤ ((ji64) : Int) := of_decide_eq_true z3q7
                         have q77 : (ji64) < (t266.size : Int) := of_decide_eq_true z3q7
                         have hx77 := bt_at t266 (ji64)
                         replace p77 := eq_true p77
                         replace q77 := eq_true q77
                         go_wp2
                         repeat (go_quiet (fail); try go_wp2)
                         go_roundg k4
                         case measure => have := HJ6.out; have := HK2.out; have := HJ33.out; have := HK4.out; omega
                         case rel => exact ⟨(ji64), z3q31, H', ⟨by have := HJ6.out; have := HK2.out; have := HJ33.out; have := HK4.out; omega⟩, ⟨by (with_reducible repeat (first | apply Kd.R_alloc | apply Kd.R_drewN | apply Kd.R_drew)); exact HO_4.out⟩, ⟨by (with_reducible repeat (first | apply Kd.R_alloc | apply Kd.R_drewN | apply Kd.R_drew)); exact HO_8.out⟩, ⟨by (with_reducible repeat (first | refine blk_drewN ?_ _ | refine blk_drew ?_ | refine blk_alloc ?_ _)); exact BK272.out⟩, ⟨by (with_reducible repeat (first | refine blk_drewN ?_ _ | refine blk_drew ?_ | refine blk_alloc ?_ _)); exact BK278.out⟩, ⟨by (with_reducible repeat (first | refine blk_drewN ?_ _ | refine blk_drew ?_ | refine blk_alloc ?_ _)); exact BK283.out⟩, ⟨by repeat (first | (with_reducible first | exact HB.out | apply below_alloc | apply pw_below_drewN | apply below_drew1 | refine below_set ?_ GE272.out | refine below_set ?_ GE278.out | refine below_set ?_ GE283.out) | exact HB.out)⟩⟩
                        next => as_aux_lemma =>
                         rw [if_neg c78] at H
                         have c78b0 : ((bt t266 (ji64)) == 10) = false := beq_eq_false_iff_ne.mpr c78
                         have c78b1 : ((bt t266 (ji64)) != 10) = true := bne_iff_ne.mpr c78
                         have H' := Aside0.mk H
                         clear H
                         have hnb82 := NB283_272.out
                         have hnc82 := NB272_283.out
                         have hnb83 := NB283_278.out
                         have hnc83 := NB278_283.out
                         have hcz84_0 : wr.cell? ⟨gb283, 0, none⟩ = some (.int .i64 ((rd_T31 t267 x9_2).f0)) := (blk_cell BK283.out 0).trans rfl
                         have hcz84_1 : wr.cell? ⟨gb283, 1, none⟩ = some (.string ((rd_T31 t267 x9_2).f1)) := (blk_cell BK283.out 1).trans rfl
                         have hcz84_2 : wr.cell? ⟨gb283, 2, none⟩ = some (.int .i64 ((rd_T31 t267 x9_2).f2)) := (blk_cell BK283.out 2).trans rfl
                         have hcz84_3 : wr.cell? ⟨gb283, 3, none⟩ = some (.int .i64 ((rd_T31 t267 x9_2).f3)) := (blk_cell BK283.out 3).trans rfl
                         have hfz84_0 := blk_frozen BK283.out 0
                         have hfz84_1 := blk_frozen BK283.out 1
                         have hfz84_2 := blk_frozen BK283.out 2
                         have hfz84_3 := blk_frozen BK283.out 3
                         have p67 : 0 ≤ ((ji64) : Int) := of_decide_eq_true z3q7
                         have q67 : (ji64) < (t266.size : Int) := of_decide_eq_true z3q7
                         have hx67 := bt_at t266 (ji64)
                         replace p67 := eq_true p67
                         replace q67 := eq_true q67
                         have p72 : 0 ≤ ((ji64) : Int) := of_decide_eq_true z3q7
                         have q72 : (ji64) < (t266.size : Int) := of_decide_eq_true z3q7
                         have hx72 := bt_at t266 (ji64)
                         replace p72 := eq_true p72
                         replace q72 := eq_true q72
                         have p77 : 0 ≤ ((ji64) : Int) := of_decide_eq_true z3q7
                         have q77 : (ji64) < (t266.size : Int) := of_decide_eq_true z3q7
                         have hx77 := bt_at t266 (ji64)
                         replace p77 := eq_true p77
                         replace q77 := eq_true q77
                         go_wp2
                         repeat (go_quiet (fail); try go_wp2)
                         go_meet
                         case rel => exact ⟨_, H', ⟨by have := HJ6.out; have := HK2.out; have := HJ33.out; have := HK4.out; first | omega | exact Nat.le_refl _⟩, ⟨by (with_reducible repeat (first | apply Kd.R_alloc | apply Kd.R_drewN | apply Kd.R_drew)); exact HO_4.out⟩, ⟨by (with_reducible repeat (first | apply Kd.R_alloc | apply Kd.R_drewN | apply Kd.R_drew)); exact HO_8.out⟩, ⟨by (with_reducible repeat (first | refine blk_drewN ?_ _ | refine blk_drew ?_ | refine blk_alloc ?_ _)); exact BK272.out⟩, ⟨by (with_reducible repeat (first | refine blk_drewN ?_ _ | refine blk_drew ?_ | refine blk_alloc ?_ _)); exact BK278.out⟩, ⟨by (with_reducible repeat (first | refine blk_drewN ?_ _ | refine blk_drew ?_ | refine blk_alloc ?_ _)); exact BK283.out⟩, ⟨by repeat (first | (with_reducible first | exact HB.out | apply below_alloc | apply pw_below_drewN | apply below_drew1 | refine below_set ?_ GE272.out | refine below_set ?_ GE278.out | refine below_set ?_ GE283.out) | exact HB.out)⟩⟩
                     next => as_aux_lemma =>
                      rw [if_neg c66] at H
                      exact absurd H (by simp)
                    next => as_aux_lemma =>
                     rw [if_neg c65] at H
                     exact absurd H (by simp)
                   next => as_aux_lemma =>
                    rw [if_neg c63] at H
                    have c63b0 : decide (((rd_T31 t267 x9_2).f3) < x11_4) = false := decide_eq_false c63
                    clear c63
                    (first | rw [c63b0] | (simp only [i64_w, i32_w]; rw [c63b0]) | skip)
                    have H' := Aside0.mk H
                    clear H
                    have hnb85 := NB283_272.out
                    have hnc85 := NB272_283.out
                    have hnb86 := NB283_278.out
                    have hnc86 := NB278_283.out
                    have hcz87_0 : wr.cell? ⟨gb283, 0, none⟩ = some (.int .i64 ((rd_T31 t267 x9_2).f0)) := (blk_cell BK283.out 0).trans rfl
                    have hcz87_1 : wr.cell? ⟨gb283, 1, none⟩ = some (.string ((rd_T31 t267 x9_2).f1)) := (blk_cell BK283.out 1).trans rfl
                    have hcz87_2 : wr.cell? ⟨gb283, 2, none⟩ = some (.int .i64 ((rd_T31 t267 x9_2).f2)) := (blk_cell BK283.out 2).trans rfl
                    have hcz87_3 : wr.cell? ⟨gb283, 3, none⟩ = some (.int .i64 ((rd_T31 t267 x9_2).f3)) := (blk_cell BK283.out 3).trans rfl
                    have hfz87_0 := blk_frozen BK283.out 0
                    have hfz87_1 := blk_frozen BK283.out 1
                    have hfz87_2 := blk_frozen BK283.out 2
                    have hfz87_3 := blk_frozen BK283.out 3
                    go_wp2
                    repeat (go_quiet (fail); try go_wp2)
                    go_meet
                    case rel => exact ⟨_, H', ⟨by have := HJ6.out; have := HK2.out; have := HJ33.out; have := HK4.out; first | omega | exact Nat.le_refl _⟩, ⟨by (with_reducible repeat (first | apply Kd.R_alloc | apply Kd.R_drewN | apply Kd.R_drew)); exact HO_4.out⟩, ⟨by (with_reducible repeat (first | apply Kd.R_alloc | apply Kd.R_drewN | apply Kd.R_drew)); exact HO_8.out⟩, ⟨by (with_reducible repeat (first | refine blk_drewN ?_ _ | refine blk_drew ?_ | refine blk_alloc ?_ _)); exact BK272.out⟩, ⟨by (with_reducible repeat (first | refine blk_drewN ?_ _ | refine blk_drew ?_ | refine blk_alloc ?_ _)); exact BK278.out⟩, ⟨by (with_reducible repeat (first | refine blk_drewN ?_ _ | refine blk_drew ?_ | refine blk_alloc ?_ _)); exact BK283.out⟩, ⟨by repeat (first | (with_reducible first | exact HB.out | apply below_alloc | apply pw_below_drewN | apply below_drew1 | refine below_set ?_ GE272.out | refine below_set ?_ GE278.out | refine below_set ?_ GE283.out) | exact HB.out)⟩⟩
                case rest =>
                 clear HC62
                 try clear c1
                 try clear c2
                 try clear p2
                 try clear q2
                 try clear hx2
                 try clear c3
                 try clear c4
                 try clear c5
                 try clear c6
                 try clear p6
                 try clear q6
                 try clear hx6
                 try clear c7
                 try clear p7
                 try clear q7
                 try clear hx7
                 try clear c8
                 try clear c14
                 try clear c16
                 try clear c16b0
                 try clear c17
                 try clear c20
                 try clear c25
                 try clear c26
                 try clear c26b0
                 try clear c26b1
                 try clear c27
                 try clear p28
                 try clear q28
                 try clear hx28
                 try clear c31
                 try clear c31b0
                 try clear c32
                 try clear c32b0
                 try clear c33
                 try clear c33b0
                 try clear c37
                 try clear c38
                 try clear c40
                 try clear c40b0
                 try clear c41
                 try clear c42
                 try clear c44
                 try clear c44b0
                 try clear c45
                 try clear c46
                 try clear c48
                 try clear c48b0
                 try clear c50
                 try clear c50b0
                 try clear c51
                 try clear c51b0
                 try clear c52
                 try clear c53
                 try clear c55
                 try clear c56
                 try clear c58
                 try clear c60
                 try clear c60b0
                 try clear c61
                 try clear c61b0
                 try clear c63
                 try clear c63b0
                 try clear p64
                 try clear c65
                 try clear c65b0
                 try clear c66
                 try clear c66b0
                 try clear p67
                 try clear q67
                 try clear hx67
                 try clear c68
                 try clear c68b0
                 try clear c68b1
                 try clear c69
                 try clear c70
                 try clear p72
                 try clear q72
                 try clear hx72
                 try clear c73
                 try clear c73b0
                 try clear c73b1
                 try clear c74
                 try clear c75
                 try clear p77
                 try clear q77
                 try clear hx77
                 try clear c78
                 try clear c78b0
                 try clear c78b1
                 try clear c79
                 try clear c80
                 try clear c82
                 try clear c83
                 try clear c85
                 try clear c86
                 try clear hcz11_0
                 try clear hcz11_1
                 try clear hcz15_0
                 try clear hcz15_1
                 try clear hcz18_0
                 try clear hcz18_1
                 try clear hcz19_0
                 try clear hcz19_1
                 try clear hcz21_0
                 try clear hcz21_1
                 try clear hcz22_0
                 try clear hcz22_1
                 try clear hcz28_0
                 try clear hcz28_1
                 try clear hcz39_0
                 try clear hcz39_1
                 try clear hcz39_2
                 try clear hcz39_3
                 try clear hcz43_0
                 try clear hcz43_1
                 try clear hcz43_2
                 try clear hcz43_3
                 try clear hcz47_0
                 try clear hcz47_1
                 try clear hcz47_2
                 try clear hcz47_3
                 try clear hcz54_0
                 try clear hcz54_1
                 try clear hcz54_2
                 try clear hcz54_3
                 try clear hcz57_0
                 try clear hcz57_1
                 try clear hcz57_2
                 try clear hcz57_3
                 try clear hcz71_0
                 try clear hcz71_1
                 try clear hcz71_2
                 try clear hcz71_3
                 try clear hcz76_0
                 try clear hcz76_1
                 try clear hcz76_2
                 try clear hcz76_3
                 try clear hcz81_0
                 try clear hcz81_1
                 try clear hcz81_2
                 try clear hcz81_3
                 try clear hcz84_0
                 try clear hcz84_1
                 try clear hcz84_2
                 try clear hcz84_3
                 try clear hcz87_0
                 try clear hcz87_1
                 try clear hcz87_2
                 try clear hcz87_3
                 try clear hfz11_0
                 try clear hfz11_1
                 try clear hfz15_0
                 try clear hfz15_1
                 try clear hfz18_0
                 try clear hfz18_1
                 try clear hfz19_0
                 try clear hfz19_1
                 try clear hfz21_0
                 try clear hfz21_1
                 try clear hfz22_0
                 try clear hfz22_1
                 try clear hfz28_0
                 try clear hfz28_1
                 try clear hfz39_0
                 try clear hfz39_1
                 try clear hfz39_2
                 try clear hfz39_3
                 try clear hfz43_0
                 try clear hfz43_1
                 try clear hfz43_2
                 try clear hfz43_3
                 try clear hfz47_0
                 try clear hfz47_1
                 try clear hfz47_2
                 try clear hfz47_3
                 try clear hfz54_0
                 try clear hfz54_1
                 try clear hfz54_2
                 try clear hfz54_3
                 try clear hfz57_0
                 try clear hfz57_1
                 try clear hfz57_2
                 try clear hfz57_3
                 try clear hfz71_0
                 try clear hfz71_1
                 try clear hfz71_2
                 try clear hfz71_3
                 try clear hfz76_0
                 try clear hfz76_1
                 try clear hfz76_2
                 try clear hfz76_3
                 try clear hfz81_0
                 try clear hfz81_1
                 try clear hfz81_2
                 try clear hfz81_3
                 try clear hfz84_0
                 try clear hfz84_1
                 try clear hfz84_2
                 try clear hfz84_3
                 try clear hfz87_0
                 try clear hfz87_1
                 try clear hfz87_2
                 try clear hfz87_3
                 try clear hx282_0
                 try clear hx282_1
                 try clear hx282_2
                 try clear hx282_3
                 try clear hx284_0
                 try clear hx284_1
                 try clear hx284_2
                 try clear hx284_3
                 try clear hx285_0
                 try clear hx285_1
                 try clear hx285_2
                 try clear hx285_3
                 try clear p2
                 try clear p28
                 try clear p282
                 try clear p284
                 try clear p285
                 try clear p6
                 try clear p67
                 try clear p72
                 try clear p77
                 try clear q2
                 try clear q28
                 try clear q282
                 try clear q284
                 try clear q285
                 try clear q67
                 try clear q72
                 try clear q77
                 obtain ⟨kq, HA, HJ61, HO_4, HO_8, BK272, BK278, BK283, HB⟩ := hcut
                 cases kq with
                 | zero => exact absurd HA.out (by simp [laws_FnWords.j4])
                 | succ kj61 =>
                  have H := HA.out
                  clear HA
                  simp only [laws_FnWords.j4] at H
                  by_cases c88 : ((rd_T31 t267 x9_2).f0) = 2
                  next => as_aux_lemma =>
                   rw [if_pos c88] at H
                   have c88b0 : (((rd_T31 t267 x9_2).f0) == 2) = true := beq_iff_eq.mpr c88
                   have c88b1 : (((rd_T31 t267 x9_2).f0) != 2) = false := bne_eq_false_iff_eq.mpr c88
                   clear c88
                   have H' := Aside0.mk H
                   clear H
                   have hnb89 := NB283_272.out
                   have hnc89 := NB272_283.out
                   have hnb90 := NB283_278.out
                   have hnc90 := NB278_283.out
                   have hcz91_0 : wc.cell? ⟨gb283, 0, none⟩ = some (.int .i64 ((rd_T31 t267 x9_2).f0)) := (blk_cell BK283.out 0).trans rfl
                   have hcz91_1 : wc.cell? ⟨gb283, 1, none⟩ = some (.string ((rd_T31 t267 x9_2).f1)) := (blk_cell BK283.out 1).trans rfl
                   have hcz91_2 : wc.cell? ⟨gb283, 2, none⟩ = some (.int .i64 ((rd_T31 t267 x9_2).f2)) := (blk_cell BK283.out 2).trans rfl
                   have hcz91_3 : wc.cell? ⟨gb283, 3, none⟩ = some (.int .i64 ((rd_T31 t267 x9_2).f3)) := (blk_cell BK283.out 3).trans rfl
                   have hfz91_0 := blk_frozen BK283.out 0
                   have hfz91_1 := blk_frozen BK283.out 1
                   have hfz91_2 := blk_frozen BK283.out 2
                   have hfz91_3 := blk_frozen BK283.out 3
                   go_wp2
                   repeat (go_quiet (fail); try go_wp2)
                   go_loopg [12] kj61 (fun kq v12 w' => ∃ (x12_5 : Int), v12 = .int .i64 x12_5 ∧ Aside0 (laws_FnWords.l2 kq t266 t267 x8_2 x9_2 x12_5 ((rd_T31 t267 x9_2).f0) ((rd_T31 t267 x9_2).f1) ((rd_T31 t267 x9_2).f2) ((rd_T31 t267 x9_2).f3) = some r) ∧ Aside0 (kq ≤ kj61) ∧ Aside0 (Kd.R k31 31 w' w.heap.size (fun k_ => k_ ≠ gb283) (.slice (some ad282) t267.length co35) t267) ∧ Aside0 (Kd.R (Kd.int .u8) 5 w' w.heap.size (fun _ => True) u8 x8_2) ∧ Aside0 (w'.heap[gb272]? = some (.cells #[.int .i64 t270, .int .i64 t271] 27 (0, 0))) ∧ Aside0 (w'.heap[gb278]? = some (.cells #[.int .i64 t276, .int .i64 t277] 27 (0, 0))) ∧ Aside0 (w'.heap[gb283]? = some (.cells #[.int .i64 ((rd_T31 t267 x9_2).f0), .string ((rd_T31 t267 x9_2).f1), .int .i64 ((rd_T31 t267 x9_2).f2), .int .i64 ((rd_T31 t267 x9_2).f3)] 31 (0, 0))) ∧ Aside0 (Below w.heap.size w w'))
                   case atStart => exact ⟨(((rd_T31 t267 x9_2).f3)), z3q19, H', ⟨Nat.le_refl _⟩, ⟨by (with_reducible repeat (first | apply Kd.R_alloc | apply Kd.R_drewN | apply Kd.R_drew)); exact HO_4.out⟩, ⟨by (with_reducible repeat (first | apply Kd.R_alloc | apply Kd.R_drewN | apply Kd.R_drew)); exact HO_8.out⟩, ⟨by (with_reducible repeat (first | refine blk_drewN ?_ _ | refine blk_drew ?_ | refine blk_alloc ?_ _)); exact BK272.out⟩, ⟨by (with_reducible repeat (first | refine blk_drewN ?_ _ | refine blk_drew ?_ | refine blk_alloc ?_ _)); exact BK278.out⟩, ⟨by (with_reducible repeat (first | refine blk_drewN ?_ _ | refine blk_drew ?_ | refine blk_alloc ?_ _)); exact BK283.out⟩, ⟨by repeat (first | (with_reducible first | exact HB.out | apply below_alloc | apply pw_below_drewN | apply below_drew1 | refine below_set ?_ GE272.out | refine below_set ?_ GE278.out | refine below_set ?_ GE283.out) | exact HB.out)⟩⟩
                   case round =>
                    clear H'
                    try clear c1
                    try clear c2
                    try clear p2
                    try clear q2
                    try clear hx2
                    try clear c3
                    try clear c4
                    try clear c5
                    try clear c6
                    try clear p6
                    try clear q6
                    try clear hx6
                    try clear c7
                    try clear p7
                    try clear q7
                    try clear hx7
                    try clear c8
                    try clear c9
                    try clear c14
                    try clear c16
                    try clear c16b0
                    try clear c17
                    try clear c20
                    try clear c25
                    try clear c26
                    try clear c26b0
                    try clear c26b1
                    try clear c27
                    try clear p28
                    try clear q28
                    try clear hx28
                    try clear c31
                    try clear c31b0
                    try clear c32
                    try clear c32b0
                    try clear c33
                    try clear c33b0
                    try clear c37
                    try clear c38
                    try clear c40
                    try clear c40b0
                    try clear c41
                    try clear c42
                    try clear c44
                    try clear c44b0
                    try clear c45
                    try clear c46
                    try clear c48
                    try clear c48b0
                    try clear c50
                    try clear c50b0
                    try clear c51
                    try clear c51b0
                    try clear c52
                    try clear c53
                    try clear c55
                    try clear c56
                    try clear c58
                    try clear c60
                    try clear c60b0
                    try clear c61
                    try clear c61b0
                    try clear c63
                    try clear c63b0
                    try clear p64
                    try clear c65
                    try clear c65b0
                    try clear c66
                    try clear c66b0
                    try clear p67
                    try clear q67
                    try clear hx67
                    try clear c68
                    try clear c68b0
                    try clear c68b1
                    try clear c69
                    try clear c70
                    try clear p72
                    try clear q72
                    try clear hx72
                    try clear c73
                    try clear c73b0
                    try clear c73b1
                    try clear c74
                    try clear c75
                    try clear p77
                    try clear q77
                    try clear hx77
                    try clear c78
                    try clear c78b0
                    try clear c78b1
                    try clear c79
                    try clear c80
                    try clear c82
                    try clear c83
                    try clear c85
                    try clear c86
                    try clear c88
                    try clear c88b0
                    try clear c88b1
                    try clear c89
                    try clear c90
                    try clear hcz11_0
                    try clear hcz11_1
                    try clear hcz15_0
                    try clear hcz15_1
                    try clear hcz18_0
                    try clear hcz18_1
                    try clear hcz19_0
                    try clear hcz19_1
                    try clear hcz21_0
                    try clear hcz21_1
                    try clear hcz22_0
                    try clear hcz22_1
                    try clear hcz28_0
                    try clear hcz28_1
                    try clear hcz39_0
                    try clear hcz39_1
                    try clear hcz39_2
                    try clear hcz39_3
                    try clear hcz43_0
                    try clear hcz43_1
                    try clear hcz43_2
                    try clear hcz43_3
                    try clear hcz47_0
                    try clear hcz47_1
                    try clear hcz47_2
                    try clear hcz47_3
                    try clear hcz54_0
                    try clear hcz54_1
                    try clear hcz54_2
                    try clear hcz54_3
                    try clear hcz57_0
                    try clear hcz57_1
                    try clear hcz57_2
                    try clear hcz57_3
                    try clear hcz71_0
                    try clear hcz71_1
                    try clear hcz71_2
                    try clear hcz71_3
                    try clear hcz76_0
                    try clear hcz76_1
                    try clear hcz76_2
                    try clear hcz76_3
                    try clear hcz81_0
                    try clear hcz81_1
                    try clear hcz81_2
                    try clear hcz81_3
                    try clear hcz84_0
                    try clear hcz84_1
                    try clear hcz84_2
                    try clear hcz84_3
                    try clear hcz87_0
                    try clear hcz87_1
                    try clear hcz87_2
                    try clear hcz87_3
                    try clear hcz91_0
                    try clear hcz91_1
                    try clear hcz91_2
                    try clear hcz91_3
                    try clear hfz11_0
                    try clear hfz11_1
                    try clear hfz15_0
                    try clear hfz15_1
                    try clear hfz18_0
                    try clear hfz18_1
                    try clear hfz19_0
                    try clear hfz19_1
                    try clear hfz21_0
                    try clear hfz21_1
                    try clear hfz22_0
                    try clear hfz22_1
                    try clear hfz28_0
                    try clear hfz28_1
                    try clear hfz39_0
                    try clear hfz39_1
                    try clear hfz39_2
                    try clear hfz39_3
                    try clear hfz43_0
                    try clear hfz43_1
                    try clear hfz43_2
                    try clear hfz43_3
                    try clear hfz47_0
                    try clear hfz47_1
                    try clear hfz47_2
                    try clear hfz47_3
                    try clear hfz54_0
                    try clear hfz54_1
                    try clear hfz54_2
                    try clear hfz54_3
                    try clear hfz57_0
                    try clear hfz57_1
                    try clear hfz57_2
                    try clear hfz57_3
                    try clear hfz71_0
                    try clear hfz71_1
                    try clear hfz71_2
                    try clear hfz71_3
                    try clear hfz76_0
                    try clear hfz76_1
                    try clear hfz76_2
                    try clear hfz76_3
                    try clear hfz81_0
                    try clear hfz81_1
                    try clear hfz81_2
                    try clear hfz81_3
                    try clear hfz84_0
                    try clear hfz84_1
                    try clear hfz84_2
                    try clear hfz84_3
                    try clear hfz87_0
                    try clear hfz87_1
                    try clear hfz87_2
                    try clear hfz87_3
                    try clear hfz91_0
                    try clear hfz91_1
                    try clear hfz91_2
                    try clear hfz91_3
                    try clear hx282_0
                    try clear hx282_1
                    try clear hx282_2
                    try clear hx282_3
                    try clear hx284_0
                    try clear hx284_1
                    try clear hx284_2
                    try clear hx284_3
                    try clear hx285_0
                    try clear hx285_1
                    try clear hx285_2
                    try clear hx285_3
                    try clear p2
                    try clear p28
                    try clear p282
                    try clear p284
                    try clear p285
                    try clear p6
                    try clear p64
                    try clear p67
                    try clear p7
                    try clear p72
                    try clear p77
                    try clear q2
                    try clear q28
                    try clear q282
                    try clear q284
                    try clear q285
                    try clear q6
                    try clear q67
                    try clear q7
                    try clear q72
                    try clear q77
                    obtain ⟨x12_5, rfl, HA, HK5, HO_4, HO_8, BK272, BK278, BK283, HB⟩ := hrel
                    cases gk with
                    | zero => exact absurd HA.out (by simp [laws_FnWords.l2])
                    | succ k5 =>
                     have H := HA.out
                     clear HA
                     simp only [laws_FnWords.l2] at H
                     by_cases c92 : x12_5 < (t266.size : Int)
                     next => as_aux_lemma =>
                      rw [if_pos c92] at H
                      have c92b0 : decide (x12_5 < (t266.size : Int)) = true := decide_eq_true c92
                      clear c92
                      by_cases c93 : 0 ≤ x12_5
                      next => as_aux_lemma =>
                       rw [if_pos c93] at H
                       have c93b0 : decide (0 ≤ x12_5) = true := decide_eq_true c93
                       clear c93
                       by_cases c95 : (bt t266 x12_5) ≥ 48
                       next => as_aux_lemma =>
                        rw [if_pos c95] at H
                        have c95b0 : decide (48 ≤ (bt t266 x12_5)) = true := decide_eq_true c95
                        clear c95
                        by_cases c97 : (bt t266 x12_5) ≤ 57
                        next => as_aux_lemma =>
                         rw [if_pos c97] at H
                         have c97b0 : decide ((bt t266 x12_5) ≤ 57) = true := decide_eq_true c97
                         clear c97
                         have H' := Aside0.mk H
                         clear H
                         have p94 : 0 ≤ (x12_5 : Int) := of_decide_eq_true z3q7
                         have q94 : x12_5 < (t266.size : Int) := of_decide_eq_true z3q7
                         have hx94 := bt_at t266 x12_5
                         replace p94 := eq_true p94
                         replace q94 := eq_true q94
                         have p96 : 0 ≤ (x12_5 : Int) := of_decide_eq_true z3q7
                         have q96 : x12_5 < (t266.size : Int) := of_decide_eq_true z3q7
                         have hx96 := bt_at t266 x12_5
                         replace p96 := eq_true p96
                         replace q96 := eq_true q96
                         go_wp2
                         repeat (go_quiet (fail); try go_wp2)
                         go_roundg k5
                         case measure => have := HJ6.out; have := HK2.out; have := HJ33.out; have := HJ61.out; have := HK5.out; omega
                         case rel => exact ⟨(wrap64 (x12_5 + 1)), z3q19, H', ⟨by have := HJ6.out; have := HK2.out; have := HJ33.out; have := HJ61.out; have := HK5.out; omega⟩, ⟨by (with_reducible repeat (first | apply Kd.R_alloc | apply Kd.R_drewN | apply Kd.R_drew)); exact HO_4.out⟩, ⟨by (with_reducible repeat (first | apply Kd.R_alloc | apply Kd.R_drewN | apply Kd.R_drew)); exact HO_8.out⟩, ⟨by (with_reducible repeat (first | refine blk_drewN ?_ _ | refine blk_drew ?_ | refine blk_alloc ?_ _)); exact BK272.out⟩, ⟨by (with_reducible repeat (first | refine blk_drewN ?_ _ | refine blk_drew ?_ | refine blk_alloc ?_ _)); exact BK278.out⟩, ⟨by (with_reducible repeat (first | refine blk_drewN ?_ _ | refine blk_drew ?_ | refine blk_alloc ?_ _)); exact BK283.out⟩, ⟨by repeat (first | (with_reducible first | exact HB.out | apply below_alloc | apply pw_below_drewN | apply below_drew1 | refine below_set ?_ GE272.out | refine below_set ?_ GE278.out | refine below_set ?_ GE283.out) | exact HB.out)⟩⟩
                        next => as_aux_lemma =>
                         rw [if_neg c97] at H
                         have c97b0 : decide ((bt t266 x12_5) ≤ 57) = false := decide_eq_false c97
                         clear c97
                         by_cases c98 : 0 ≤ ((rd_T31 t267 x9_2).f3)
                         next => as_aux_lemma =>
                          rw [if_pos c98] at H
                          have c98b0 := eq_true c98
                          have c98b1 : decide (0 ≤ ((rd_T31 t267 x9_2).f3)) = true := decide_eq_true c98
                          clear c98
                          by_cases c99 : ((rd_T31 t267 x9_2).f3) ≤ x12_5
                          next => as_aux_lemma =>
                           rw [if_pos c99] at H
                           have c99b0 := eq_true c99
                           have c99b1 : decide (((rd_T31 t267 x9_2).f3) ≤ x12_5) = true := decide_eq_true c99
                           clear c99
                           by_cases c100 : x12_5 ≤ (t266.size : Int)
                           next => as_aux_lemma =>
                            rw [if_pos c100] at H
                            have c100b0 := eq_true c100
                            have c100b1 : decide (x12_5 ≤ (t266.size : Int)) = true := decide_eq_true c100
                            clear c100
                            by_cases c101 : x8_2.length + (t266.extract (((rd_T31 t267 x9_2).f3) : Int).toNat (x12_5 : Int).toNat).size < 140737488355328
                            next => as_aux_lemma =>
                             rw [if_pos c101] at H
                             have LMc101 := Aside0.mk c101
                             clear c101
                             obtain ⟨y286, hy286⟩ : ∃ y_ : List Int, y_ = (x8_2 ++ bytesOf (t266.extract (((rd_T31 t267 x9_2).f3) : Int).toNat (x12_5 : Int).toNat)) := ⟨_, rfl⟩
                             replace H : (if y286.length < 140737488355328 then (laws_FnWords.l0 k5 t266 t267 (y286 ++ [32]) (wrap64 (x9_2 + 1))) else (none)) = some r := by first | (rw [hy286]; with_reducible exact H) | (have H2_ := (Option.bind_some _ _).symm.trans H; rw [hy286]; with_reducible exact H2_) | (have H2_ := (Option.bind_some _ _).symm.trans H; with_reducible exact H2_) | with_reducible exact H | (rw [hy286]; exact H) | exact H
                             have Ny286 := Aside0.mk hy286
                             clear hy286
                             by_cases c102 : y286.length < 140737488355328
                             next => as_aux_lemma =>
                              rw [if_pos c102] at H
                              have LMc102 := Aside0.mk c102
                              clear c102
                              obtain ⟨y289, hy289⟩ : ∃ y_ : List Int, y_ = (y286 ++ [32]) := ⟨_, rfl⟩
                              replace H : (laws_FnWords.l0 k5 t266 t267 y289 (wrap64 (x9_2 + 1))) = some r := by first | (rw [hy289]; with_reducible exact H) | (have H2_ := (Option.bind_some _ _).symm.trans H; rw [hy289]; with_reducible exact H2_) | (have H2_ := (Option.bind_some _ _).symm.trans H; with_reducible exact H2_) | with_reducible exact H | (rw [hy289]; exact H) | exact H
                              have Ny289 := Aside0.mk hy289
                              clear hy289
                              have H' := Aside0.mk H
                              clear H
                              have p94 : 0 ≤ (x12_5 : Int) := of_decide_eq_true z3q7
                              have q94 : x12_5 < (t266.size : Int) := of_decide_eq_true z3q7
                              have hx94 := bt_at t266 x12_5
                              replace p94 := eq_true p94
                              replace q94 := eq_true q94
                              have p96 : 0 ≤ (x12_5 : Int) := of_decide_eq_true z3q7
                              have q96 : x12_5 < (t266.size : Int) := of_decide_eq_true z3q7
                              have hx96 := bt_at t266 x12_5
                              replace p96 := eq_true p96
                              replace q96 := eq_true q96
                              have hnb103 := NB283_272.out
                              have hnc103 := NB272_283.out
                              have hnb104 := NB283_278.out
                              have hnc104 := NB278_283.out
                              have hcz105_0 : wr.cell? ⟨gb283, 0, none⟩ = some (.int .i64 ((rd_T31 t267 x9_2).f0)) := (blk_cell BK283.out 0).trans rfl
                              have hcz105_1 : wr.cell? ⟨gb283, 1, none⟩ = some (.string ((rd_T31 t267 x9_2).f1)) := (blk_cell BK283.out 1).trans rfl
                              have hcz105_2 : wr.cell? ⟨gb283, 2, none⟩ = some (.int .i64 ((rd_T31 t267 x9_2).f2)) := (blk_cell BK283.out 2).trans rfl
                              have hcz105_3 : wr.cell? ⟨gb283, 3, none⟩ = some (.int .i64 ((rd_T31 t267 x9_2).f3)) := (blk_cell BK283.out 3).trans rfl
                              have hfz105_0 := blk_frozen BK283.out 0
                              have hfz105_1 := blk_frozen BK283.out 1
                              have hfz105_2 := blk_frozen BK283.out 2
                              have hfz105_3 := blk_frozen BK283.out 3
                              go_wp2_with (first | (at_builtin; refine print_append_str (w0 := w) w.heap.size rfl (.tmp 139) _ 22 9 5 rfl Try.underlying22 Try.underlying9 info5 u8 x8_2 (t266.extract (((rd_T31 t267 x9_2).f3) : Int).toNat (x12_5 : Int).toNat) rfl rfl ?aO ?aB ?aS ?aL ?_; (case aB => exact z3q2); (case aO => exact (Kd.own_of_R z3q6)); (case aS => exact (below_size z3q2)); (case aL => have := LMc101.out; omega); intro v287 w106 ho0 hb hg; have ho := Kd.R_of_own (h1 := fun _ => rfl) (ok := fun _ => True) ho0 (fun _ _ => trivial); clear ho0; have hat := True.intro; rw [← Ny286.out] at ho; change Kd.R (Kd.int .u8) 5 w106 w.heap.size (fun _ => True) v287 y286 at ho; have n0_ := Aside0.mk (Kd.R_over' z3q5 (Kd.R_typed z3q6) (by decide) hg); have n1_ := Aside0.mk (blk_grown (g := gb272) (o := .cells #[.int .i64 t270, .int .i64 t271] 27 (0, 0)) z3q3 hg (Kd.R_ne HO_8.out BK272.out (by decide))); have n2_ := Aside0.mk (blk_grown (g := gb278) (o := .cells #[.int .i64 t276, .int .i64 t277] 27 (0, 0)) z3q4 hg (Kd.R_ne HO_8.out BK278.out (by decide))); have n3_ := Aside0.mk (blk_grown (g := gb283) (o := .cells #[.int .i64 ((rd_T31 t267 x9_2).f0), .string ((rd_T31 t267 x9_2).f1), .int .i64 ((rd_T31 t267 x9_2).f2), .int .i64 ((rd_T31 t267 x9_2).f3)] 31 (0, 0)) z3q8 hg (Kd.R_ne HO_8.out BK283.out (by decide))); have n4_ := Aside0.mk (hb); have n5_ := Aside0.mk (ho); clear HO_4; clear BK272; clear BK278; clear BK283; clear HB; clear HO_8; have HO_4 := n0_; have BK272 := n1_; have BK278 := n2_; have BK283 := n3_; have HB := n4_; have HO288 := n5_; clear n0_ n1_ n2_ n3_ n4_ n5_; clear ho hb hg hat) | ((with_reducible refine gate_builtin (b := .append) (xs := #[.tmp 145, .tmp 146]) rfl ?_); (try (refine gate_guard (by rfl) ?_; dsimp only)); at_builtin; refine Kd.R_append (Kd.int .u8) (w0 := w) w.heap.size rfl (.tmp 145) (.tmp 146) 22 5 (.int .u8 0) 1 rfl Try.underlying22 info5 rfl (by decide) (by omega) v287 y286 32 [.int .u8 32] (fun _ => True) (fun _ => False) rfl rfl ?aP (fun _ hk => hk.elim) ?aF ?aO ?aB ?aS ?aL ?_; (case aP => exact rfl); (case aB => exact z3q2); (case aF => exact (fun _ _ => trivial)); (case aO => exact z3q23); (case aS => exact (below_size z3q2)); (case aL => have := LMc102.out; omega); intro v290 w107 ho hb hg hat; rw [← Ny289.out] at ho; have n0_ := Aside0.mk (Kd.R_over' z3q5 (Kd.R_typed z3q23) (by decide) hg); have n1_ := Aside0.mk (blk_grown (g := gb272) (o := .cells #[.int .i64 t270, .int .i64 t271] 27 (0, 0)) z3q3 hg (Kd.R_ne HO288.out BK272.out (by decide))); have n2_ := Aside0.mk (blk_grown (g := gb278) (o := .cells #[.int .i64 t276, .int .i64 t277] 27 (0, 0)) z3q4 hg (Kd.R_ne HO288.out BK278.out (by decide))); have n3_ := Aside0.mk (blk_grown (g := gb283) (o := .cells #[.int .i64 ((rd_T31 t267 x9_2).f0), .string ((rd_T31 t267 x9_2).f1), .int .i64 ((rd_T31 t267 x9_2).f2), .int .i64 ((rd_T31 t267 x9_2).f3)] 31 (0, 0)) z3q8 hg (Kd.R_ne HO288.out BK283.out (by decide))); have n4_ := Aside0.mk (hb); have n5_ := Aside0.mk (ho); clear HO_4; clear BK272; clear BK278; clear BK283; clear HB; clear HO288; have HO_4 := n0_; have BK272 := n1_; have BK278 := n2_; have BK283 := n3_; have HB := n4_; have HO291 := n5_; clear n0_ n1_ n2_ n3_ n4_ n5_; clear ho hb hg hat))
                              repeat (go_quiet (first | (at_builtin; refine print_append_str (w0 := w) w.heap.size rfl (.tmp 139) _ 22 9 5 rfl Try.underlying22 Try.underlying9 info5 u8 x8_2 (t266.extract (((rd_T31 t267 x9_2).f3) : Int).toNat (x12_5 : Int).toNat) rfl rfl ?aO ?aB ?aS ?aL ?_; (case aB => exact z3q2); (case aO => exact (Kd.own_of_R z3q6)); (case aS => exact (below_size z3q2)); (case aL => have := LMc101.out; omega); intro v287 w106 ho0 hb hg; have ho := Kd.R_of_own (h1 := fun _ => rfl) (ok := fun _ => True) ho0 (fun _ _ => trivial); clear ho0; have hat := True.intro; rw [← Ny286.out] at ho; change Kd.R (Kd.int .u8) 5 w106 w.heap.size (fun _ => True) v287 y286 at ho; have n0_ := Aside0.mk (Kd.R_over' z3q5 (Kd.R_typed z3q6) (by decide) hg); have n1_ := Aside0.mk (blk_grown (g := gb272) (o := .cells #[.int .i64 t270, .int .i64 t271] 27 (0, 0)) z3q3 hg (Kd.R_ne HO_8.out BK272.out (by decide))); have n2_ := Aside0.mk (blk_grown (g := gb278) (o := .cells #[.int .i64 t276, .int .i64 t277] 27 (0, 0)) z3q4 hg (Kd.R_ne HO_8.out BK278.out (by decide))); have n3_ := Aside0.mk (blk_grown (g := gb283) (o := .cells #[.int .i64 ((rd_T31 t267 x9_2).f0), .string ((rd_T31 t267 x9_2).f1), .int .i64 ((rd_T31 t267 x9_2).f2), .int .i64 ((rd_T31 t267 x9_2).f3)] 31 (0, 0)) z3q8 hg (Kd.R_ne HO_8.out BK283.out (by decide))); have n4_ := Aside0.mk (hb); have n5_ := Aside0.mk (ho); clear HO_4; clear BK272; clear BK278; clear BK283; clear HB; clear HO_8; have HO_4 := n0_; have BK272 := n1_; have BK278 := n2_; have BK283 := n3_; have HB := n4_; have HO288 := n5_; clear n0_ n1_ n2_ n3_ n4_ n5_; clear ho hb hg hat) | ((with_reducible refine gate_builtin (b := .append) (xs := #[.tmp 145, .tmp 146]) rfl ?_); (try (refine gate_guard (by rfl) ?_; dsimp only)); at_builtin; refine Kd.R_append (Kd.int .u8) (w0 := w) w.heap.size rfl (.tmp 145) (.tmp 146) 22 5 (.int .u8 0) 1 rfl Try.underlying22 info5 rfl (by decide) (by omega) v287 y286 32 [.int .u8 32] (fun _ => True) (fun _ => False) rfl rfl ?aP (fun _ hk => hk.elim) ?aF ?aO ?aB ?aS ?aL ?_; (case aP => exact rfl); (case aB => exact z3q2); (case aF => exact (fun _ _ => trivial)); (case aO => exact z3q23); (case aS => exact (below_size z3q2)); (case aL => have := LMc102.out; omega); intro v290 w107 ho hb hg hat; rw [← Ny289.out] at ho; have n0_ := Aside0.mk (Kd.R_over' z3q5 (Kd.R_typed z3q23) (by decide) hg); have n1_ := Aside0.mk (blk_grown (g := gb272) (o := .cells #[.int .i64 t270, .int .i64 t271] 27 (0, 0)) z3q3 hg (Kd.R_ne HO288.out BK272.out (by decide))); have n2_ := Aside0.mk (blk_grown (g := gb278) (o := .cells #[.int .i64 t276, .int .i64 t277] 27 (0, 0)) z3q4 hg (Kd.R_ne HO288.out BK278.out (by decide))); have n3_ := Aside0.mk (blk_grown (g := gb283) (o := .cells #[.int .i64 ((rd_T31 t267 x9_2).f0), .string ((rd_T31 t267 x9_2).f1), .int .i64 ((rd_T31 t267 x9_2).f2), .int .i64 ((rd_T31 t267 x9_2).f3)] 31 (0, 0)) z3q8 hg (Kd.R_ne HO288.out BK283.out (by decide))); have n4_ := Aside0.mk (hb); have n5_ := Aside0.mk (ho); clear HO_4; clear BK272; clear BK278; clear BK283; clear HB; clear HO288; have HO_4 := n0_; have BK272 := n1_; have BK278 := n2_; have BK283 := n3_; have HB := n4_; have HO291 := n5_; clear n0_ n1_ n2_ n3_ n4_ n5_; clear ho hb hg hat)); try go_wp2_with (first | (at_builtin; refine print_append_str (w0 := w) w.heap.size rfl (.tmp 139) _ 22 9 5 rfl Try.underlying22 Try.underlying9 info5 u8 x8_2 (t266.extract (((rd_T31 t267 x9_2).f3) : Int).toNat (x12_5 : Int).toNat) rfl rfl ?aO ?aB ?aS ?aL ?_; (case aB => exact z3q2); (case aO => exact (Kd.own_of_R z3q6)); (case aS => exact (below_size z3q2)); (case aL => have := LMc101.out; omega); intro v287 w106 ho0 hb hg; have ho := Kd.R_of_own (h1 := fun _ => rfl) (ok := fun _ => True) ho0 (fun _ _ => trivial); clear ho0; have hat := True.intro; rw [← Ny286.out] at ho; change Kd.R (Kd.int .u8) 5 w106 w.heap.size (fun _ => True) v287 y286 at ho; have n0_ := Aside0.mk (Kd.R_over' z3q5 (Kd.R_typed z3q6) (by decide) hg); have n1_ := Aside0.mk (blk_grown (g := gb272) (o := .cells #[.int .i64 t270, .int .i64 t271] 27 (0, 0)) z3q3 hg (Kd.R_ne HO_8.out BK272.out (by decide))); have n2_ := Aside0.mk (blk_grown (g := gb278) (o := .cells #[.int .i64 t276, .int .i64 t277] 27 (0, 0)) z3q4 hg (Kd.R_ne HO_8.out BK278.out (by decide))); have n3_ := Aside0.mk (blk_grown (g := gb283) (o := .cells #[.int .i64 ((rd_T31 t267 x9_2).f0), .string ((rd_T31 t267 x9_2).f1), .int .i64 ((rd_T31 t267 x9_2).f2), .int .i64 ((rd_T31 t267 x9_2).f3)] 31 (0, 0)) z3q8 hg (Kd.R_ne HO_8.out BK283.out (by decide))); have n4_ := Aside0.mk (hb); have n5_ := Aside0.mk (ho); clear HO_4; clear BK272; clear BK278; clear BK283; clear HB; clear HO_8; have HO_4 := n0_; have BK272 := n1_; have BK278 := n2_; have BK283 := n3_; have HB := n4_; have HO288 := n5_; clear n0_ n1_ n2_ n3_ n4_ n5_; clear ho hb hg hat) | ((with_reducible refine gate_builtin (b := .append) (xs := #[.tmp 145, .tmp 146]) rfl ?_); (try (refine gate_guard (by rfl) ?_; dsimp only)); at_builtin; refine Kd.R_append (Kd.int .u8) (w0 := w) w.heap.size rfl (.tmp 145) (.tmp 146) 22 5 (.int .u8 0) 1 rfl Try.underlying22 info5 rfl (by decide) (by omega) v287 y286 32 [.int .u8 32] (fun _ => True) (fun _ => False) rfl rfl ?aP (fun _ hk => hk.elim) ?aF ?aO ?aB ?aS ?aL ?_; (case aP => exact rfl); (case aB => exact z3q2); (case aF => exact (fun _ _ => trivial)); (case aO => exact z3q23); (case aS => exact (below_size z3q2)); (case aL => have := LMc102.out; omega); intro v290 w107 ho hb hg hat; rw [← Ny289.out] at ho; have n0_ := Aside0.mk (Kd.R_over' z3q5 (Kd.R_typed z3q23) (by decide) hg); have n1_ := Aside0.mk (blk_grown (g := gb272) (o := .cells #[.int .i64 t270, .int .i64 t271] 27 (0, 0)) z3q3 hg (Kd.R_ne HO288.out BK272.out (by decide))); have n2_ := Aside0.mk (blk_grown (g := gb278) (o := .cells #[.int .i64 t276, .int .i64 t277] 27 (0, 0)) z3q4 hg (Kd.R_ne HO288.out BK278.out (by decide))); have n3_ := Aside0.mk (blk_grown (g := gb283) (o := .cells #[.int .i64 ((rd_T31 t267 x9_2).f0), .string ((rd_T31 t267 x9_2).f1), .int .i64 ((rd_T31 t267 x9_2).f2), .int .i64 ((rd_T31 t267 x9_2).f3)] 31 (0, 0)) z3q8 hg (Kd.R_ne HO288.out BK283.out (by decide))); have n4_ := Aside0.mk (hb); have n5_ := Aside0.mk (ho); clear HO_4; clear BK272; clear BK278; clear BK283; clear HB; clear HO288; have HO_4 := n0_; have BK272 := n1_; have BK278 := n2_; have BK283 := n3_; have HB := n4_; have HO291 := n5_; clear n0_ n1_ n2_ n3_ n4_ n5_; clear ho hb hg hat)))
                              go_roundg k5
                              case measure => have := HJ6.out; have := HK2.out; have := HJ33.out; have := HJ61.out; have := HK5.out; omega
                              case rel => exact ⟨(y289), (wrap64 (x9_2 + 1)), z3q19, H', ⟨by have := HJ6.out; have := HK2.out; have := HJ33.out; have := HJ61.out; have := HK5.out; omega⟩, ⟨by (with_reducible repeat (first | apply Kd.R_alloc | apply Kd.R_drewN | apply Kd.R_drew)); exact Kd.R_mono HO_4.out (fun _ hk => trivial)⟩, ⟨by (with_reducible repeat (first | apply Kd.R_alloc | apply Kd.R_drewN | apply Kd.R_drew)); exact HO291.out⟩, ⟨by (with_reducible repeat (first | refine blk_drewN ?_ _ | refine blk_drew ?_ | refine blk_alloc ?_ _)); exact BK272.out⟩, ⟨by (with_reducible repeat (first | refine blk_drewN ?_ _ | refine blk_drew ?_ | refine blk_alloc ?_ _)); exact BK278.out⟩, ⟨by repeat (first | (with_reducible first | exact HB.out | apply below_alloc | apply pw_below_drewN | apply below_drew1 | refine below_set ?_ GE272.out | refine below_set ?_ GE278.out | refine below_set ?_ GE283.out) | exact HB.out)⟩⟩
                             next => as_aux_lemma =>
                              rw [if_neg c102] at H
                              exact absurd H (by simp)
                            next => as_aux_lemma =>
                             rw [if_neg c101] at H
                             exact absurd H (by simp)
                           next => as_aux_lemma =>
                            rw [if_neg c100] at H
                            exact absurd H (by simp)
                          next => as_aux_lemma =>
                           rw [if_neg c99] at H
                           exact absurd H (by simp)
                         next => as_aux_lemma =>
                          rw [if_neg c98] at H
                          exact absurd H (by simp)
                       next => as_aux_lemma =>
                        rw [if_neg c95] at H
                        have c95b0 : decide (48 ≤ (bt t266 x12_5)) = false := decide_eq_false c95
                        clear c95
                        by_cases c108 : 0 ≤ ((rd_T31 t267 x9_2).f3)
                        next => as_aux_lemma =>
                         rw [if_pos c108] at H
                         have c108b0 := eq_true c108
                         have c108b1 : decide (0 ≤ ((rd_T31 t267 x9_2).f3)) = true := decide_eq_true c108
                         clear c108
                         by_cases c109 : ((rd_T31 t267 x9_2).f3) ≤ x12_5
                         next => as_aux_lemma =>
                          rw [if_pos c109] at H
                          have c109b0 := eq_true c109
                          have c109b1 : decide (((rd_T31 t267 x9_2).f3) ≤ x12_5) = true := decide_eq_true c109
                          clear c109
                          by_cases c110 : x12_5 ≤ (t266.size : Int)
                          next => as_aux_lemma =>
                           rw [if_pos c110] at H
                           have c110b0 := eq_true c110
                           have c110b1 : decide (x12_5 ≤ (t266.size : Int)) = true := decide_eq_true c110
                           clear c110
                           by_cases c111 : x8_2.length + (t266.extract (((rd_T31 t267 x9_2).f3) : Int).toNat (x12_5 : Int).toNat).size < 140737488355328
                           next => as_aux_lemma =>
                            rw [if_pos c111] at H
                            have LMc111 := Aside0.mk c111
                            clear c111
                            obtain ⟨y292, hy292⟩ : ∃ y_ : List Int, y_ = (x8_2 ++ bytesOf (t266.extract (((rd_T31 t267 x9_2).f3) : Int).toNat (x12_5 : Int).toNat)) := ⟨_, rfl⟩
                            replace H : (if y292.length < 140737488355328 then (laws_FnWords.l0 k5 t266 t267 (y292 ++ [32]) (wrap64 (x9_2 + 1))) else (none)) = some r := by first | (rw [hy292]; with_reducible exact H) | (have H2_ := (Option.bind_some _ _).symm.trans H; rw [hy292]; with_reducible exact H2_) | (have H2_ := (Option.bind_some _ _).symm.trans H; with_reducible exact H2_) | with_reducible exact H | (rw [hy292]; exact H) | exact H
                            have Ny292 := Aside0.mk hy292
                            clear hy292
                            by_cases c112 : y292.length < 140737488355328
                            next => as_aux_lemma =>
                             rw [if_pos c112] at H
                             have LMc112 := Aside0.mk c112
                             clear c112
                             obtain ⟨y295, hy295⟩ : ∃ y_ : List Int, y_ = (y292 ++ [32]) := ⟨_, rfl⟩
                             replace H : (laws_FnWords.l0 k5 t266 t267 y295 (wrap64 (x9_2 + 1))) = some r := by first | (rw [hy295]; with_reducible exact H) | (have H2_ := (Option.bind_some _ _).symm.trans H; rw [hy295]; with_reducible exact H2_) | (have H2_ := (Option.bind_some _ _).symm.trans H; with_reducible exact H2_) | with_reducible exact H | (rw [hy295]; exact H) | exact H
                             have Ny295 := Aside0.mk hy295
                             clear hy295
                             have H' := Aside0.mk H
                             clear H
                             have p94 : 0 ≤ (x12_5 : Int) := of_decide_eq_true z3q7
                             have q94 : x12_5 < (t266.size : Int) := of_decide_eq_true z3q7
                             have hx94 := bt_at t266 x12_5
                             replace p94 := eq_true p94
                             replace q94 := eq_true q94
                             have hnb113 := NB283_272.out
                             have hnc113 := NB272_283.out
                             have hnb114 := NB283_278.out
                             have hnc114 := NB278_283.out
                             have hcz115_0 : wr.cell? ⟨gb283, 0, none⟩ = some (.int .i64 ((rd_T31 t267 x9_2).f0)) := (blk_cell BK283.out 0).trans rfl
                             have hcz115_1 : wr.cell? ⟨gb283, 1, none⟩ = some (.string ((rd_T31 t267 x9_2).f1)) := (blk_cell BK283.out 1).trans rfl
                             have hcz115_2 : wr.cell? ⟨gb283, 2, none⟩ = some (.int .i64 ((rd_T31 t267 x9_2).f2)) := (blk_cell BK283.out 2).trans rfl
                             have hcz115_3 : wr.cell? ⟨gb283, 3, none⟩ = some (.int .i64 ((rd_T31 t267 x9_2).f3)) := (blk_cell BK283.out 3).trans rfl
                             have hfz115_0 := blk_frozen BK283.out 0
                             have hfz115_1 := blk_frozen BK283.out 1
                             have hfz115_2 := blk_frozen BK283.out 2
                             have hfz115_3 := blk_frozen BK283.out 3
                             go_wp2_with (first | (at_builtin; refine print_append_str (w0 := w) w.heap.size rfl (.tmp 139) _ 22 9 5 rfl Try.underlying22 Try.underlying9 info5 u8 x8_2 (t266.extract (((rd_T31 t267 x9_2).f3) : Int).toNat (x12_5 : Int).toNat) rfl rfl ?aO ?aB ?aS ?aL ?_; (case aB => exact z3q2); (case aO => exact (Kd.own_of_R z3q6)); (case aS => exact (below_size z3q2)); (case aL => have := LMc111.out; omega); intro v293 w116 ho0 hb hg; have ho := Kd.R_of_own (h1 := fun _ => rfl) (ok := fun _ => True) ho0 (fun _ _ => trivial); clear ho0; have hat := True.intro; rw [← Ny292.out] at ho; change Kd.R (Kd.int .u8) 5 w116 w.heap.size (fun _ => True) v293 y292 at ho; have n0_ := Aside0.mk (Kd.R_over' z3q5 (Kd.R_typed z3q6) (by decide) hg); have n1_ := Aside0.mk (blk_grown (g := gb272) (o := .cells #[.int .i64 t270, .int .i64 t271] 27 (0, 0)) z3q3 hg (Kd.R_ne HO_8.out BK272.out (by decide))); have n2_ := Aside0.mk (blk_grown (g := gb278) (o := .cells #[.int .i64 t276, .int .i64 t277] 27 (0, 0)) z3q4 hg (Kd.R_ne HO_8.out BK278.out (by decide))); have n3_ := Aside0.mk (blk_grown (g := gb283) (o := .cells #[.int .i64 ((rd_T31 t267 x9_2).f0), .string ((rd_T31 t267 x9_2).f1), .int .i64 ((rd_T31 t267 x9_2).f2), .int .i64 ((rd_T31 t267 x9_2).f3)] 31 (0, 0)) z3q8 hg (Kd.R_ne HO_8.out BK283.out (by decide))); have n4_ := Aside0.mk (hb); have n5_ := Aside0.mk (ho); clear HO_4; clear BK272; clear BK278; clear BK283; clear HB; clear HO_8; have HO_4 := n0_; have BK272 := n1_; have BK278 := n2_; have BK283 := n3_; have HB := n4_; have HO294 := n5_; clear n0_ n1_ n2_ n3_ n4_ n5_; clear ho hb hg hat) | ((with_reducible refine gate_builtin (b := .append) (xs := #[.tmp 145, .tmp 146]) rfl ?_); (try (refine gate_guard (by rfl) ?_; dsimp only)); at_builtin; refine Kd.R_append (Kd.int .u8) (w0 := w) w.heap.size rfl (.tmp 145) (.tmp 146) 22 5 (.int .u8 0) 1 rfl Try.underlying22 info5 rfl (by decide) (by omega) v293 y292 32 [.int .u8 32] (fun _ => True) (fun _ => False) rfl rfl ?aP (fun _ hk => hk.elim) ?aF ?aO ?aB ?aS ?aL ?_; (case aP => exact rfl); (case aB => exact z3q2); (case aF => exact (fun _ _ => trivial)); (case aO => exact z3q22); (case aS => exact (below_size z3q2)); (case aL => have := LMc112.out; omega); intro v296 w117 ho hb hg hat; rw [← Ny295.out] at ho; have n0_ := Aside0.mk (Kd.R_over' z3q5 (Kd.R_typed z3q22) (by decide) hg); have n1_ := Aside0.mk (blk_grown (g := gb272) (o := .cells #[.int .i64 t270, .int .i64 t271] 27 (0, 0)) z3q3 hg (Kd.R_ne HO294.out BK272.out (by decide))); have n2_ := Aside0.mk (blk_grown (g := gb278) (o := .cells #[.int .i64 t276, .int .i64 t277] 27 (0, 0)) z3q4 hg (Kd.R_ne HO294.out BK278.out (by decide))); have n3_ := Aside0.mk (blk_grown (g := gb283) (o := .cells #[.int .i64 ((rd_T31 t267 x9_2).f0), .string ((rd_T31 t267 x9_2).f1), .int .i64 ((rd_T31 t267 x9_2).f2), .int .i64 ((rd_T31 t267 x9_2).f3)] 31 (0, 0)) z3q8 hg (Kd.R_ne HO294.out BK283.out (by decide))); have n4_ := Aside0.mk (hb); have n5_ := Aside0.mk (ho); clear HO_4; clear BK272; clear BK278; clear BK283; clear HB; clear HO294; have HO_4 := n0_; have BK272 := n1_; have BK278 := n2_; have BK283 := n3_; have HB := n4_; have HO297 := n5_; clear n0_ n1_ n2_ n3_ n4_ n5_; clear ho hb hg hat))
                             repeat (go_quiet (first | (at_builtin; refine print_append_str (w0 := w) w.heap.size rfl (.tmp 139) _ 22 9 5 rfl Try.underlying22 Try.underlying9 info5 u8 x8_2 (t266.extract (((rd_T31 t267 x9_2).f3) : Int).toNat (x12_5 : Int).toNat) rfl rfl ?aO ?aB ?aS ?aL ?_; (case aB => exact z3q2); (case aO => exact (Kd.own_of_R z3q6)); (case aS => exact (below_size z3q2)); (case aL => have := LMc111.out; omega); intro v293 w116 ho0 hb hg; have ho := Kd.R_of_own (h1 := fun _ => rfl) (ok := fun _ => True) ho0 (fun _ _ => trivial); clear ho0; have hat := True.intro; rw [← Ny292.out] at ho; change Kd.R (Kd.int .u8) 5 w116 w.heap.size (fun _ => True) v293 y292 at ho; have n0_ := Aside0.mk (Kd.R_over' z3q5 (Kd.R_typed z3q6) (by decide) hg); have n1_ := Aside0.mk (blk_grown (g := gb272) (o := .cells #[.int .i64 t270, .int .i64 t271] 27 (0, 0)) z3q3 hg (Kd.R_ne HO_8.out BK272.out (by decide))); have n2_ := Aside0.mk (blk_grown (g := gb278) (o := .cells #[.int .i64 t276, .int .i64 t277] 27 (0, 0)) z3q4 hg (Kd.R_ne HO_8.out BK278.out (by decide))); have n3_ := Aside0.mk (blk_grown (g := gb283) (o := .cells #[.int .i64 ((rd_T31 t267 x9_2).f0), .string ((rd_T31 t267 x9_2).f1), .int .i64 ((rd_T31 t267 x9_2).f2), .int .i64 ((rd_T31 t267 x9_2).f3)] 31 (0, 0)) z3q8 hg (Kd.R_ne HO_8.out BK283.out (by decide))); have n4_ := Aside0.mk (hb); have n5_ := Aside0.mk (ho); clear HO_4; clear BK272; clear BK278; clear BK283; clear HB; clear HO_8; have HO_4 := n0_; have BK272 := n1_; have BK278 := n2_; have BK283 := n3_; have HB := n4_; have HO294 := n5_; clear n0_ n1_ n2_ n3_ n4_ n5_; clear ho hb hg hat) | ((with_reducible refine gate_builtin (b := .append) (xs := #[.tmp 145, .tmp 146]) rfl ?_); (try (refine gate_guard (by rfl) ?_; dsimp only)); at_builtin; refine Kd.R_append (Kd.int .u8) (w0 := w) w.heap.size rfl (.tmp 145) (.tmp 146) 22 5 (.int .u8 0) 1 rfl Try.underlying22 info5 rfl (by decide) (by omega) v293 y292 32 [.int .u8 32] (fun _ => True) (fun _ => False) rfl rfl ?aP (fun _ hk => hk.elim) ?aF ?aO ?aB ?aS ?aL ?_; (case aP => exact rfl); (case aB => exact z3q2); (case aF => exact (fun _ _ => trivial)); (case aO => exact z3q22); (case aS => exact (below_size z3q2)); (case aL => have := LMc112.out; omega); intro v296 w117 ho hb hg hat; rw [← Ny295.out] at ho; have n0_ := Aside0.mk (Kd.R_over' z3q5 (Kd.R_typed z3q22) (by decide) hg); have n1_ := Aside0.mk (blk_grown (g := gb272) (o := .cells #[.int .i64 t270, .int .i64 t271] 27 (0, 0)) z3q3 hg (Kd.R_ne HO294.out BK272.out (by decide))); have n2_ := Aside0.mk (blk_grown (g := gb278) (o := .cells #[.int .i64 t276, .int .i64 t277] 27 (0, 0)) z3q4 hg (Kd.R_ne HO294.out BK278.out (by decide))); have n3_ := Aside0.mk (blk_grown (g := gb283) (o := .cells #[.int .i64 ((rd_T31 t267 x9_2).f0), .string ((rd_T31 t267 x9_2).f1), .int .i64 ((rd_T31 t267 x9_2).f2), .int .i64 ((rd_T31 t267 x9_2).f3)] 31 (0, 0)) z3q8 hg (Kd.R_ne HO294.out BK283.out (by decide))); have n4_ := Aside0.mk (hb); have n5_ := Aside0.mk (ho); clear HO_4; clear BK272; clear BK278; clear BK283; clear HB; clear HO294; have HO_4 := n0_; have BK272 := n1_; have BK278 := n2_; have BK283 := n3_; have HB := n4_; have HO297 := n5_; clear n0_ n1_ n2_ n3_ n4_ n5_; clear ho hb hg hat)); try go_wp2_with (first | (at_builtin; refine print_append_str (w0 := w) w.heap.size rfl (.tmp 139) _ 22 9 5 rfl Try.underlying22 Try.underlying9 info5 u8 x8_2 (t266.extract (((rd_T31 t267 x9_2).f3) : Int).toNat (x12_5 : Int).toNat) rfl rfl ?aO ?aB ?aS ?aL ?_; (case aB => exact z3q2); (case aO => exact (Kd.own_of_R z3q6)); (case aS => exact (below_size z3q2)); (case aL => have := LMc111.out; omega); intro v293 w116 ho0 hb hg; have ho := Kd.R_of_own (h1 := fun _ => rfl) (ok := fun _ => True) ho0 (fun _ _ => trivial); clear ho0; have hat := True.intro; rw [← Ny292.out] at ho; change Kd.R (Kd.int .u8) 5 w116 w.heap.size (fun _ => True) v293 y292 at ho; have n0_ := Aside0.mk (Kd.R_over' z3q5 (Kd.R_typed z3q6) (by decide) hg); have n1_ := Aside0.mk (blk_grown (g := gb272) (o := .cells #[.int .i64 t270, .int .i64 t271] 27 (0, 0)) z3q3 hg (Kd.R_ne HO_8.out BK272.out (by decide))); have n2_ := Aside0.mk (blk_grown (g := gb278) (o := .cells #[.int .i64 t276, .int .i64 t277] 27 (0, 0)) z3q4 hg (Kd.R_ne HO_8.out BK278.out (by decide))); have n3_ := Aside0.mk (blk_grown (g := gb283) (o := .cells #[.int .i64 ((rd_T31 t267 x9_2).f0), .string ((rd_T31 t267 x9_2).f1), .int .i64 ((rd_T31 t267 x9_2).f2), .int .i64 ((rd_T31 t267 x9_2).f3)] 31 (0, 0)) z3q8 hg (Kd.R_ne HO_8.out BK283.out (by decide))); have n4_ := Aside0.mk (hb); have n5_ := Aside0.mk (ho); clear HO_4; clear BK272; clear BK278; clear BK283; clear HB; clear HO_8; have HO_4 := n0_; have BK272 := n1_; have BK278 := n2_; have BK283 := n3_; have HB := n4_; have HO294 := n5_; clear n0_ n1_ n2_ n3_ n4_ n5_; clear ho hb hg hat) | ((with_reducible refine gate_builtin (b := .append) (xs := #[.tmp 145, .tmp 146]) rfl ?_); (try (refine gate_guard (by rfl) ?_; dsimp only)); at_builtin; refine Kd.R_append (Kd.int .u8) (w0 := w) w.heap.size rfl (.tmp 145) (.tmp 146) 22 5 (.int .u8 0) 1 rfl Try.underlying22 info5 rfl (by decide) (by omega) v293 y292 32 [.int .u8 32] (fun _ => True) (fun _ => False) rfl rfl ?aP (fun _ hk => hk.elim) ?aF ?aO ?aB ?aS ?aL ?_; (case aP => exact rfl); (case aB => exact z3q2); (case aF => exact (fun _ _ => trivial)); (case aO => exact z3q22); (case aS => exact (below_size z3q2)); (case aL => have := LMc112.out; omega); intro v296 w117 ho hb hg hat; rw [← Ny295.out] at ho; have n0_ := Aside0.mk (Kd.R_over' z3q5 (Kd.R_typed z3q22) (by decide) hg); have n1_ := Aside0.mk (blk_grown (g := gb272) (o := .cells #[.int .i64 t270, .int .i64 t271] 27 (0, 0)) z3q3 hg (Kd.R_ne HO294.out BK272.out (by decide))); have n2_ := Aside0.mk (blk_grown (g := gb278) (o := .cells #[.int .i64 t276, .int .i64 t277] 27 (0, 0)) z3q4 hg (Kd.R_ne HO294.out BK278.out (by decide))); have n3_ := Aside0.mk (blk_grown (g := gb283) (o := .cells #[.int .i64 ((rd_T31 t267 x9_2).f0), .string ((rd_T31 t267 x9_2).f1), .int .i64 ((rd_T31 t267 x9_2).f2), .int .i64 ((rd_T31 t267 x9_2).f3)] 31 (0, 0)) z3q8 hg (Kd.R_ne HO294.out BK283.out (by decide))); have n4_ := Aside0.mk (hb); have n5_ := Aside0.mk (ho); clear HO_4; clear BK272; clear BK278; clear BK283; clear HB; clear HO294; have HO_4 := n0_; have BK272 := n1_; have BK278 := n2_; have BK283 := n3_; have HB := n4_; have HO297 := n5_; clear n0_ n1_ n2_ n3_ n4_ n5_; clear ho hb hg hat)))
                             go_roundg k5
                             case measure => have := HJ6.out; have := HK2.out; have := HJ33.out; have := HJ61.out; have := HK5.out; omega
                             case rel => exact ⟨(y295), (wrap64 (x9_2 + 1)), z3q19, H', ⟨by have := HJ6.out; have := HK2.out; have := HJ33.out; have := HJ61.out; have := HK5.out; omega⟩, ⟨by (with_reducible repeat (first | apply Kd.R_alloc | apply Kd.R_drewN | apply Kd.R_drew)); exact Kd.R_mono HO_4.out (fun _ hk => trivial)⟩, ⟨by (with_reducible repeat (first | apply Kd.R_alloc | apply Kd.R_drewN | apply Kd.R_drew)); exact HO297.out⟩, ⟨by (with_reducible repeat (first | refine blk_drewN ?_ _ | refine blk_drew ?_ | refine blk_alloc ?_ _)); exact BK272.out⟩, ⟨by (with_reducible repeat (first | refine blk_drewN ?_ _ | refine blk_drew ?_ | refine blk_alloc ?_ _)); exact BK278.out⟩, ⟨by repeat (first | (with_reducible first | exact HB.out | apply below_alloc | apply pw_below_drewN | apply below_drew1 | refine below_set ?_ GE272.out | refine below_set ?_ GE278.out | refine below_set ?_ GE283.out) | exact HB.out)⟩⟩
                            next => as_aux_lemma =>
                             rw [if_neg c112] at H
                             exact absurd H (by simp)
                           next => as_aux_lemma =>
                            rw [if_neg c111] at H
                            exact absurd H (by simp)
                          next => as_aux_lemma =>
                           rw [if_neg c110] at H
                           exact absurd H (by simp)
                         next => as_aux_lemma =>
                          rw [if_neg c109] at H
                          exact absurd H (by simp)
                        next => as_aux_lemma =>
                         rw [if_neg c108] at H
                         exact absurd H (by simp)
                      next => as_aux_lemma =>
                       rw [if_neg c93] at H
                       exact absurd H (by simp)
                     next => as_aux_lemma =>
                      rw [if_neg c92] at H
                      have c92b0 : decide (x12_5 < (t266.size : Int)) = false := decide_eq_false c92
                      clear c92
                      by_cases c118 : 0 ≤ ((rd_T31 t267 x9_2).f3)
                      next => as_aux_lemma =>
                       rw [if_pos c118] at H
                       have c118b0 := eq_true c118
                       have c118b1 : decide (0 ≤ ((rd_T31 t267 x9_2).f3)) = true := decide_eq_true c118
                       clear c118
                       by_cases c119 : ((rd_T31 t267 x9_2).f3) ≤ x12_5
                       next => as_aux_lemma =>
                        rw [if_pos c119] at H
                        have c119b0 := eq_true c119
                        have c119b1 : decide (((rd_T31 t267 x9_2).f3) ≤ x12_5) = true := decide_eq_true c119
                        clear c119
                        by_cases c120 : x12_5 ≤ (t266.size : Int)
                        next => as_aux_lemma =>
                         rw [if_pos c120] at H
                         have c120b0 := eq_true c120
                         have c120b1 : decide (x12_5 ≤ (t266.size : Int)) = true := decide_eq_true c120
                         clear c120
                         by_cases c121 : x8_2.length + (t266.extract (((rd_T31 t267 x9_2).f3) : Int).toNat (x12_5 : Int).toNat).size < 140737488355328
                         next => as_aux_lemma =>
                          rw [if_pos c121] at H
                          have LMc121 := Aside0.mk c121
                          clear c121
                          obtain ⟨y298, hy298⟩ : ∃ y_ : List Int, y_ = (x8_2 ++ bytesOf (t266.extract (((rd_T31 t267 x9_2).f3) : Int).toNat (x12_5 : Int).toNat)) := ⟨_, rfl⟩
                          replace H : (if y298.length < 140737488355328 then (laws_FnWords.l0 k5 t266 t267 (y298 ++ [32]) (wrap64 (x9_2 + 1))) else (none)) = some r := by first | (rw [hy298]; with_reducible exact H) | (have H2_ := (Option.bind_some _ _).symm.trans H; rw [hy298]; with_reducible exact H2_) | (have H2_ := (Option.bind_some _ _).symm.trans H; with_reducible exact H2_) | with_reducible exact H | (rw [hy298]; exact H) | exact H
                          have Ny298 := Aside0.mk hy298
                          clear hy298
                          by_cases c122 : y298.length < 140737488355328
                          next => as_aux_lemma =>
                           rw [if_pos c122] at H
                           have LMc122 := Aside0.mk c122
                           clear c122
                           obtain ⟨y301, hy301⟩ : ∃ y_ : List Int, y_ = (y298 ++ [32]) := ⟨_, rfl⟩
                           replace H : (laws_FnWords.l0 k5 t266 t267 y301 (wrap64 (x9_2 + 1))) = some r := by first | (rw [hy301]; with_reducible exact H) | (have H2_ := (Option.bind_some _ _).symm.trans H; rw [hy301]; with_reducible exact H2_) | (have H2_ := (Option.bind_some _ _).symm.trans H; with_reducible exact H2_) | with_reducible exact H | (rw [hy301]; exact H) | exact H
                           have Ny301 := Aside0.mk hy301
                           clear hy301
                           have H' := Aside0.mk H
                           clear H
                           have hnb123 := NB283_272.out
                           have hnc123 := NB272_283.out
                           have hnb124 := NB283_278.out
                           have hnc124 := NB278_283.out
                           have hcz125_0 : wr.cell? ⟨gb283, 0, none⟩ = some (.int .i64 ((rd_T31 t267 x9_2).f0)) := (blk_cell BK283.out 0).trans rfl
                           have hcz125_1 : wr.cell? ⟨gb283, 1, none⟩ = some (.string ((rd_T31 t267 x9_2).f1)) := (blk_cell BK283.out 1).trans rfl
                           have hcz125_2 : wr.cell? ⟨gb283, 2, none⟩ = some (.int .i64 ((rd_T31 t267 x9_2).f2)) := (blk_cell BK283.out 2).trans rfl
                           have hcz125_3 : wr.cell? ⟨gb283, 3, none⟩ = some (.int .i64 ((rd_T31 t267 x9_2).f3)) := (blk_cell BK283.out 3).trans rfl
                           have hfz125_0 := blk_frozen BK283.out 0
                           have hfz125_1 := blk_frozen BK283.out 1
                           have hfz125_2 := blk_frozen BK283.out 2
                           have hfz125_3 := blk_frozen BK283.out 3
                           go_wp2_with (first | (at_builtin; refine print_append_str (w0 := w) w.heap.size rfl (.tmp 139) _ 22 9 5 rfl Try.underlying22 Try.underlying9 info5 u8 x8_2 (t266.extract (((rd_T31 t267 x9_2).f3) : Int).toNat (x12_5 : Int).toNat) rfl rfl ?aO ?aB ?aS ?aL ?_; (case aB => exact z3q2); (case aO => exact (Kd.own_of_R z3q6)); (case aS => exact (below_size z3q2)); (case aL => have := LMc121.out; omega); intro v299 w126 ho0 hb hg; have ho := Kd.R_of_own (h1 := fun _ => rfl) (ok := fun _ => True) ho0 (fun _ _ => trivial); clear ho0; have hat := True.intro; rw [← Ny298.out] at ho; change Kd.R (Kd.int .u8) 5 w126 w.heap.size (fun _ => True) v299 y298 at ho; have n0_ := Aside0.mk (Kd.R_over' z3q5 (Kd.R_typed z3q6) (by decide) hg); have n1_ := Aside0.mk (blk_grown (g := gb272) (o := .cells #[.int .i64 t270, .int .i64 t271] 27 (0, 0)) z3q3 hg (Kd.R_ne HO_8.out BK272.out (by decide))); have n2_ := Aside0.mk (blk_grown (g := gb278) (o := .cells #[.int .i64 t276, .int .i64 t277] 27 (0, 0)) z3q4 hg (Kd.R_ne HO_8.out BK278.out (by decide))); have n3_ := Aside0.mk (blk_grown (g := gb283) (o := .cells #[.int .i64 ((rd_T31 t267 x9_2).f0), .string ((rd_T31 t267 x9_2).f1), .int .i64 ((rd_T31 t267 x9_2).f2), .int .i64 ((rd_T31 t267 x9_2).f3)] 31 (0, 0)) z3q8 hg (Kd.R_ne HO_8.out BK283.out (by decide))); have n4_ := Aside0.mk (hb); have n5_ := Aside0.mk (ho); clear HO_4; clear BK272; clear BK278; clear BK283; clear HB; clear HO_8; have HO_4 := n0_; have BK272 := n1_; have BK278 := n2_; have BK283 := n3_; have HB := n4_; have HO300 := n5_; clear n0_ n1_ n2_ n3_ n4_ n5_; clear ho hb hg hat) | ((with_reducible refine gate_builtin (b := .append) (xs := #[.tmp 145, .tmp 146]) rfl ?_); (try (refine gate_guard (by rfl) ?_; dsimp only)); at_builtin; refine Kd.R_append (Kd.int .u8) (w0 := w) w.heap.size rfl (.tmp 145) (.tmp 146) 22 5 (.int .u8 0) 1 rfl Try.underlying22 info5 rfl (by decide) (by omega) v299 y298 32 [.int .u8 32] (fun _ => True) (fun _ => False) rfl rfl ?aP (fun _ hk => hk.elim) ?aF ?aO ?aB ?aS ?aL ?_; (case aP => exact rfl); (case aB => exact z3q2); (case aF => exact (fun _ _ => trivial)); (case aO => exact z3q21); (case aS => exact (below_size z3q2)); (case aL => have := LMc122.out; omega); intro v302 w127 ho hb hg hat; rw [← Ny301.out] at ho; have n0_ := Aside0.mk (Kd.R_over' z3q5 (Kd.R_typed z3q21) (by decide) hg); have n1_ := Aside0.mk (blk_grown (g := gb272) (o := .cells #[.int .i64 t270, .int .i64 t271] 27 (0, 0)) z3q3 hg (Kd.R_ne HO300.out BK272.out (by decide))); have n2_ := Aside0.mk (blk_grown (g := gb278) (o := .cells #[.int .i64 t276, .int .i64 t277] 27 (0, 0)) z3q4 hg (Kd.R_ne HO300.out BK278.out (by decide))); have n3_ := Aside0.mk (blk_grown (g := gb283) (o := .cells #[.int .i64 ((rd_T31 t267 x9_2).f0), .string ((rd_T31 t267 x9_2).f1), .int .i64 ((rd_T31 t267 x9_2).f2), .int .i64 ((rd_T31 t267 x9_2).f3)] 31 (0, 0)) z3q8 hg (Kd.R_ne HO300.out BK283.out (by decide))); have n4_ := Aside0.mk (hb); have n5_ := Aside0.mk (ho); clear HO_4; clear BK272; clear BK278; clear BK283; clear HB; clear HO300; have HO_4 := n0_; have BK272 := n1_; have BK278 := n2_; have BK283 := n3_; have HB := n4_; have HO303 := n5_; clear n0_ n1_ n2_ n3_ n4_ n5_; clear ho hb hg hat))
                           repeat (go_quiet (first | (at_builtin; refine print_append_str (w0 := w) w.heap.size rfl (.tmp 139) _ 22 9 5 rfl Try.underlying22 Try.underlying9 info5 u8 x8_2 (t266.extract (((rd_T31 t267 x9_2).f3) : Int).toNat (x12_5 : Int).toNat) rfl rfl ?aO ?aB ?aS ?aL ?_; (case aB => exact z3q2); (case aO => exact (Kd.own_of_R z3q6)); (case aS => exact (below_size z3q2)); (case aL => have := LMc121.out; omega); intro v299 w126 ho0 hb hg; have ho := Kd.R_of_own (h1 := fun _ => rfl) (ok := fun _ => True) ho0 (fun _ _ => trivial); clear ho0; have hat := True.intro; rw [← Ny298.out] at ho; change Kd.R (Kd.int .u8) 5 w126 w.heap.size (fun _ => True) v299 y298 at ho; have n0_ := Aside0.mk (Kd.R_over' z3q5 (Kd.R_typed z3q6) (by decide) hg); have n1_ := Aside0.mk (blk_grown (g := gb272) (o := .cells #[.int .i64 t270, .int .i64 t271] 27 (0, 0)) z3q3 hg (Kd.R_ne HO_8.out BK272.out (by decide))); have n2_ := Aside0.mk (blk_grown (g := gb278) (o := .cells #[.int .i64 t276, .int .i64 t277] 27 (0, 0)) z3q4 hg (Kd.R_ne HO_8.out BK278.out (by decide))); have n3_ := Aside0.mk (blk_grown (g := gb283) (o := .cells #[.int .i64 ((rd_T31 t267 x9_2).f0), .string ((rd_T31 t267 x9_2).f1), .int .i64 ((rd_T31 t267 x9_2).f2), .int .i64 ((rd_T31 t267 x9_2).f3)] 31 (0, 0)) z3q8 hg (Kd.R_ne HO_8.out BK283.out (by decide))); have n4_ := Aside0.mk (hb); have n5_ := Aside0.mk (ho); clear HO_4; clear BK272; clear BK278; clear BK283; clear HB; clear HO_8; have HO_4 := n0_; have BK272 := n1_; have BK278 := n2_; have BK283 := n3_; have HB := n4_; have HO300 := n5_; clear n0_ n1_ n2_ n3_ n4_ n5_; clear ho hb hg hat) | ((with_reducible refine gate_builtin (b := .append) (xs := #[.tmp 145, .tmp 146]) rfl ?_); (try (refine gate_guard (by rfl) ?_; dsimp only)); at_builtin; refine Kd.R_append (Kd.int .u8) (w0 := w) w.heap.size rfl (.tmp 145) (.tmp 146) 22 5 (.int .u8 0) 1 rfl Try.underlying22 info5 rfl (by decide) (by omega) v299 y298 32 [.int .u8 32] (fun _ => True) (fun _ => False) rfl rfl ?aP (fun _ hk => hk.elim) ?aF ?aO ?aB ?aS ?aL ?_; (case aP => exact rfl); (case aB => exact z3q2); (case aF => exact (fun _ _ => trivial)); (case aO => exact z3q21); (case aS => exact (below_size z3q2)); (case aL => have := LMc122.out; omega); intro v302 w127 ho hb hg hat; rw [← Ny301.out] at ho; have n0_ := Aside0.mk (Kd.R_over' z3q5 (Kd.R_typed z3q21) (by decide) hg); have n1_ := Aside0.mk (blk_grown (g := gb272) (o := .cells #[.int .i64 t270, .int .i64 t271] 27 (0, 0)) z3q3 hg (Kd.R_ne HO300.out BK272.out (by decide))); have n2_ := Aside0.mk (blk_grown (g := gb278) (o := .cells #[.int .i64 t276, .int .i64 t277] 27 (0, 0)) z3q4 hg (Kd.R_ne HO300.out BK278.out (by decide))); have n3_ := Aside0.mk (blk_grown (g := gb283) (o := .cells #[.int .i64 ((rd_T31 t267 x9_2).f0), .string ((rd_T31 t267 x9_2).f1), .int .i64 ((rd_T31 t267 x9_2).f2), .int .i64 ((rd_T31 t267 x9_2).f3)] 31 (0, 0)) z3q8 hg (Kd.R_ne HO300.out BK283.out (by decide))); have n4_ := Aside0.mk (hb); have n5_ := Aside0.mk (ho); clear HO_4; clear BK272; clear BK278; clear BK283; clear HB; clear HO300; have HO_4 := n0_; have BK272 := n1_; have BK278 := n2_; have BK283 := n3_; have HB := n4_; have HO303 := n5_; clear n0_ n1_ n2_ n3_ n4_ n5_; clear ho hb hg hat)); try go_wp2_with (first | (at_builtin; refine print_append_str (w0 := w) w.heap.size rfl (.tmp 139) _ 22 9 5 rfl Try.underlying22 Try.underlying9 info5 u8 x8_2 (t266.extract (((rd_T31 t267 x9_2).f3) : Int).toNat (x12_5 : Int).toNat) rfl rfl ?aO ?aB ?aS ?aL ?_; (case aB => exact z3q2); (case aO => exact (Kd.own_of_R z3q6)); (case aS => exact (below_size z3q2)); (case aL => have := LMc121.out; omega); intro v299 w126 ho0 hb hg; have ho := Kd.R_of_own (h1 := fun _ => rfl) (ok := fun _ => True) ho0 (fun _ _ => trivial); clear ho0; have hat := True.intro; rw [← Ny298.out] at ho; change Kd.R (Kd.int .u8) 5 w126 w.heap.size (fun _ => True) v299 y298 at ho; have n0_ := Aside0.mk (Kd.R_over' z3q5 (Kd.R_typed z3q6) (by decide) hg); have n1_ := Aside0.mk (blk_grown (g := gb272) (o := .cells #[.int .i64 t270, .int .i64 t271] 27 (0, 0)) z3q3 hg (Kd.R_ne HO_8.out BK272.out (by decide))); have n2_ := Aside0.mk (blk_grown (g := gb278) (o := .cells #[.int .i64 t276, .int .i64 t277] 27 (0, 0)) z3q4 hg (Kd.R_ne HO_8.out BK278.out (by decide))); have n3_ := Aside0.mk (blk_grown (g := gb283) (o := .cells #[.int .i64 ((rd_T31 t267 x9_2).f0), .string ((rd_T31 t267 x9_2).f1), .int .i64 ((rd_T31 t267 x9_2).f2), .int .i64 ((rd_T31 t267 x9_2).f3)] 31 (0, 0)) z3q8 hg (Kd.R_ne HO_8.out BK283.out (by decide))); have n4_ := Aside0.mk (hb); have n5_ := Aside0.mk (ho); clear HO_4; clear BK272; clear BK278; clear BK283; clear HB; clear HO_8; have HO_4 := n0_; have BK272 := n1_; have BK278 := n2_; have BK283 := n3_; have HB := n4_; have HO300 := n5_; clear n0_ n1_ n2_ n3_ n4_ n5_; clear ho hb hg hat) | ((with_reducible refine gate_builtin (b := .append) (xs := #[.tmp 145, .tmp 146]) rfl ?_); (try (refine gate_guard (by rfl) ?_; dsimp only)); at_builtin; refine Kd.R_append (Kd.int .u8) (w0 := w) w.heap.size rfl (.tmp 145) (.tmp 146) 22 5 (.int .u8 0) 1 rfl Try.underlying22 info5 rfl (by decide) (by omega) v299 y298 32 [.int .u8 32] (fun _ => True) (fun _ => False) rfl rfl ?aP (fun _ hk => hk.elim) ?aF ?aO ?aB ?aS ?aL ?_; (case aP => exact rfl); (case aB => exact z3q2); (case aF => exact (fun _ _ => trivial)); (case aO => exact z3q21); (case aS => exact (below_size z3q2)); (case aL => have := LMc122.out; omega); intro v302 w127 ho hb hg hat; rw [← Ny301.out] at ho; have n0_ := Aside0.mk (Kd.R_over' z3q5 (Kd.R_typed z3q21) (by decide) hg); have n1_ := Aside0.mk (blk_grown (g := gb272) (o := .cells #[.int .i64 t270, .int .i64 t271] 27 (0, 0)) z3q3 hg (Kd.R_ne HO300.out BK272.out (by decide))); have n2_ := Aside0.mk (blk_grown (g := gb278) (o := .cells #[.int .i64 t276, .int .i64 t277] 27 (0, 0)) z3q4 hg (Kd.R_ne HO300.out BK278.out (by decide))); have n3_ := Aside0.mk (blk_grown (g := gb283) (o := .cells #[.int .i64 ((rd_T31 t267 x9_2).f0), .string ((rd_T31 t267 x9_2).f1), .int .i64 ((rd_T31 t267 x9_2).f2), .int .i64 ((rd_T31 t267 x9_2).f3)] 31 (0, 0)) z3q8 hg (Kd.R_ne HO300.out BK283.out (by decide))); have n4_ := Aside0.mk (hb); have n5_ := Aside0.mk (ho); clear HO_4; clear BK272; clear BK278; clear BK283; clear HB; clear HO300; have HO_4 := n0_; have BK272 := n1_; have BK278 := n2_; have BK283 := n3_; have HB := n4_; have HO303 := n5_; clear n0_ n1_ n2_ n3_ n4_ n5_; clear ho hb hg hat)))
                           go_roundg k5
                           case measure => have := HJ6.out; have := HK2.out; have := HJ33.out; have := HJ61.out; have := HK5.out; omega
                           case rel => exact ⟨(y301), (wrap64 (x9_2 + 1)), z3q19, H', ⟨by have := HJ6.out; have := HK2.out; have := HJ33.out; have := HJ61.out; have := HK5.out; omega⟩, ⟨by (with_reducible repeat (first | apply Kd.R_alloc | apply Kd.R_drewN | apply Kd.R_drew)); exact Kd.R_mono HO_4.out (fun _ hk => trivial)⟩, ⟨by (with_reducible repeat (first | apply Kd.R_alloc | apply Kd.R_drewN | apply Kd.R_drew)); exact HO303.out⟩, ⟨by (with_reducible repeat (first | refine blk_drewN ?_ _ | refine blk_drew ?_ | refine blk_alloc ?_ _)); exact BK272.out⟩, ⟨by (with_reducible repeat (first | refine blk_drewN ?_ _ | refine blk_drew ?_ | refine blk_alloc ?_ _)); exact BK278.out⟩, ⟨by repeat (first | (with_reducible first | exact HB.out | apply below_alloc | apply pw_below_drewN | apply below_drew1 | refine below_set ?_ GE272.out | refine below_set ?_ GE278.out | refine below_set ?_ GE283.out) | exact HB.out)⟩⟩
                          next => as_aux_lemma =>
                           rw [if_neg c122] at H
                           exact absurd H (by simp)
                         next => as_aux_lemma =>
                          rw [if_neg c121] at H
                          exact absurd H (by simp)
                        next => as_aux_lemma =>
                         rw [if_neg c120] at H
                         exact absurd H (by simp)
                       next => as_aux_lemma =>
                        rw [if_neg c119] at H
                        exact absurd H (by simp)
                      next => as_aux_lemma =>
                       rw [if_neg c118] at H
                       exact absurd H (by simp)
                  next => as_aux_lemma =>
                   rw [if_neg c88] at H
                   have c88b0 : (((rd_T31 t267 x9_2).f0) == 2) = false := beq_eq_false_iff_ne.mpr c88
                   have c88b1 : (((rd_T31 t267 x9_2).f0) != 2) = true := bne_iff_ne.mpr c88
                   by_cases c128 : x8_2.length + ((rd_T31 t267 x9_2).f1).size < 140737488355328
                   next => as_aux_lemma =>
                    rw [if_pos c128] at H
                    have LMc128 := Aside0.mk c128
                    clear c128
                    obtain ⟨y304, hy304⟩ : ∃ y_ : List Int, y_ = (x8_2 ++ bytesOf ((rd_T31 t267 x9_2).f1)) := ⟨_, rfl⟩
                    replace H : (if y304.length < 140737488355328 then (laws_FnWords.l0 kj61 t266 t267 (y304 ++ [32]) (wrap64 (x9_2 + 1))) else (none)) = some r := by first | (rw [hy304]; with_reducible exact H) | (have H2_ := (Option.bind_some _ _).symm.trans H; rw [hy304]; with_reducible exact H2_) | (have H2_ := (Option.bind_some _ _).symm.trans H; with_reducible exact H2_) | with_reducible exact H | (rw [hy304]; exact H) | exact H
                    have Ny304 := Aside0.mk hy304
                    clear hy304
                    by_cases c129 : y304.length < 140737488355328
                    next => as_aux_lemma =>
                     rw [if_pos c129] at H
                     have LMc129 := Aside0.mk c129
                     clear c129
                     obtain ⟨y307, hy307⟩ : ∃ y_ : List Int, y_ = (y304 ++ [32]) := ⟨_, rfl⟩
                     replace H : (laws_FnWords.l0 kj61 t266 t267 y307 (wrap64 (x9_2 + 1))) = some r := by first | (rw [hy307]; with_reducible exact H) | (have H2_ := (Option.bind_some _ _).symm.trans H; rw [hy307]; with_reducible exact H2_) | (have H2_ := (Option.bind_some _ _).symm.trans H; with_reducible exact H2_) | with_reducible exact H | (rw [hy307]; exact H) | exact H
                     have Ny307 := Aside0.mk hy307
                     clear hy307
                     have H' := Aside0.mk H
                     clear H
                     have hnb130 := NB283_272.out
                     have hnc130 := NB272_283.out
                     have hnb131 := NB283_278.out
                     have hnc131 := NB278_283.out
                     have hcz132_0 : wc.cell? ⟨gb283, 0, none⟩ = some (.int .i64 ((rd_T31 t267 x9_2).f0)) := (blk_cell BK283.out 0).trans rfl
                     have hcz132_1 : wc.cell? ⟨gb283, 1, none⟩ = some (.string ((rd_T31 t267 x9_2).f1)) := (blk_cell BK283.out 1).trans rfl
                     have hcz132_2 : wc.cell? ⟨gb283, 2, none⟩ = some (.int .i64 ((rd_T31 t267 x9_2).f2)) := (blk_cell BK283.out 2).trans rfl
                     have hcz132_3 : wc.cell? ⟨gb283, 3, none⟩ = some (.int .i64 ((rd_T31 t267 x9_2).f3)) := (blk_cell BK283.out 3).trans rfl
                     have hfz132_0 := blk_frozen BK283.out 0
                     have hfz132_1 := blk_frozen BK283.out 1
                     have hfz132_2 := blk_frozen BK283.out 2
                     have hfz132_3 := blk_frozen BK283.out 3
                     go_wp2_with (first | (at_builtin; refine print_append_str (w0 := w) w.heap.size rfl (.tmp 148) _ 22 9 5 rfl Try.underlying22 Try.underlying9 info5 u8 x8_2 ((rd_T31 t267 x9_2).f1) rfl rfl ?aO ?aB ?aS ?aL ?_; (case aB => exact z3q2); (case aO => exact (Kd.own_of_R z3q6)); (case aS => exact (below_size z3q2)); (case aL => have := LMc128.out; omega); intro v305 w133 ho0 hb hg; have ho := Kd.R_of_own (h1 := fun _ => rfl) (ok := fun _ => True) ho0 (fun _ _ => trivial); clear ho0; have hat := True.intro; rw [← Ny304.out] at ho; change Kd.R (Kd.int .u8) 5 w133 w.heap.size (fun _ => True) v305 y304 at ho; have n0_ := Aside0.mk (Kd.R_over' z3q5 (Kd.R_typed z3q6) (by decide) hg); have n1_ := Aside0.mk (blk_grown (g := gb272) (o := .cells #[.int .i64 t270, .int .i64 t271] 27 (0, 0)) z3q3 hg (Kd.R_ne HO_8.out BK272.out (by decide))); have n2_ := Aside0.mk (blk_grown (g := gb278) (o := .cells #[.int .i64 t276, .int .i64 t277] 27 (0, 0)) z3q4 hg (Kd.R_ne HO_8.out BK278.out (by decide))); have n3_ := Aside0.mk (blk_grown (g := gb283) (o := .cells #[.int .i64 ((rd_T31 t267 x9_2).f0), .string ((rd_T31 t267 x9_2).f1), .int .i64 ((rd_T31 t267 x9_2).f2), .int .i64 ((rd_T31 t267 x9_2).f3)] 31 (0, 0)) z3q8 hg (Kd.R_ne HO_8.out BK283.out (by decide))); have n4_ := Aside0.mk (hb); have n5_ := Aside0.mk (ho); clear HO_4; clear BK272; clear BK278; clear BK283; clear HB; clear HO_8; have HO_4 := n0_; have BK272 := n1_; have BK278 := n2_; have BK283 := n3_; have HB := n4_; have HO306 := n5_; clear n0_ n1_ n2_ n3_ n4_ n5_; clear ho hb hg hat) | ((with_reducible refine gate_builtin (b := .append) (xs := #[.tmp 151, .tmp 152]) rfl ?_); (try (refine gate_guard (by rfl) ?_; dsimp only)); at_builtin; refine Kd.R_append (Kd.int .u8) (w0 := w) w.heap.size rfl (.tmp 151) (.tmp 152) 22 5 (.int .u8 0) 1 rfl Try.underlying22 info5 rfl (by decide) (by omega) v305 y304 32 [.int .u8 32] (fun _ => True) (fun _ => False) rfl rfl ?aP (fun _ hk => hk.elim) ?aF ?aO ?aB ?aS ?aL ?_; (case aP => exact rfl); (case aB => exact z3q2); (case aF => exact (fun _ _ => trivial)); (case aO => exact z3q20); (case aS => exact (below_size z3q2)); (case aL => have := LMc129.out; omega); intro v308 w134 ho hb hg hat; rw [← Ny307.out] at ho; have n0_ := Aside0.mk (Kd.R_over' z3q5 (Kd.R_typed z3q20) (by decide) hg); have n1_ := Aside0.mk (blk_grown (g := gb272) (o := .cells #[.int .i64 t270, .int .i64 t271] 27 (0, 0)) z3q3 hg (Kd.R_ne HO306.out BK272.out (by decide))); have n2_ := Aside0.mk (blk_grown (g := gb278) (o := .cells #[.int .i64 t276, .int .i64 t277] 27 (0, 0)) z3q4 hg (Kd.R_ne HO306.out BK278.out (by decide))); have n3_ := Aside0.mk (blk_grown (g := gb283) (o := .cells #[.int .i64 ((rd_T31 t267 x9_2).f0), .string ((rd_T31 t267 x9_2).f1), .int .i64 ((rd_T31 t267 x9_2).f2), .int .i64 ((rd_T31 t267 x9_2).f3)] 31 (0, 0)) z3q8 hg (Kd.R_ne HO306.out BK283.out (by decide))); have n4_ := Aside0.mk (hb); have n5_ := Aside0.mk (ho); clear HO_4; clear BK272; clear BK278; clear BK283; clear HB; clear HO306; have HO_4 := n0_; have BK272 := n1_; have BK278 := n2_; have BK283 := n3_; have HB := n4_; have HO309 := n5_; clear n0_ n1_ n2_ n3_ n4_ n5_; clear ho hb hg hat))
                     repeat (go_quiet (first | (at_builtin; refine print_append_str (w0 := w) w.heap.size rfl (.tmp 148) _ 22 9 5 rfl Try.underlying22 Try.underlying9 info5 u8 x8_2 ((rd_T31 t267 x9_2).f1) rfl rfl ?aO ?aB ?aS ?aL ?_; (case aB => exact z3q2); (case aO => exact (Kd.own_of_R z3q6)); (case aS => exact (below_size z3q2)); (case aL => have := LMc128.out; omega); intro v305 w133 ho0 hb hg; have ho := Kd.R_of_own (h1 := fun _ => rfl) (ok := fun _ => True) ho0 (fun _ _ => trivial); clear ho0; have hat := True.intro; rw [← Ny304.out] at ho; change Kd.R (Kd.int .u8) 5 w133 w.heap.size (fun _ => True) v305 y304 at ho; have n0_ := Aside0.mk (Kd.R_over' z3q5 (Kd.R_typed z3q6) (by decide) hg); have n1_ := Aside0.mk (blk_grown (g := gb272) (o := .cells #[.int .i64 t270, .int .i64 t271] 27 (0, 0)) z3q3 hg (Kd.R_ne HO_8.out BK272.out (by decide))); have n2_ := Aside0.mk (blk_grown (g := gb278) (o := .cells #[.int .i64 t276, .int .i64 t277] 27 (0, 0)) z3q4 hg (Kd.R_ne HO_8.out BK278.out (by decide))); have n3_ := Aside0.mk (blk_grown (g := gb283) (o := .cells #[.int .i64 ((rd_T31 t267 x9_2).f0), .string ((rd_T31 t267 x9_2).f1), .int .i64 ((rd_T31 t267 x9_2).f2), .int .i64 ((rd_T31 t267 x9_2).f3)] 31 (0, 0)) z3q8 hg (Kd.R_ne HO_8.out BK283.out (by decide))); have n4_ := Aside0.mk (hb); have n5_ := Aside0.mk (ho); clear HO_4; clear BK272; clear BK278; clear BK283; clear HB; clear HO_8; have HO_4 := n0_; have BK272 := n1_; have BK278 := n2_; have BK283 := n3_; have HB := n4_; have HO306 := n5_; clear n0_ n1_ n2_ n3_ n4_ n5_; clear ho hb hg hat) | ((with_reducible refine gate_builtin (b := .append) (xs := #[.tmp 151, .tmp 152]) rfl ?_); (try (refine gate_guard (by rfl) ?_; dsimp only)); at_builtin; refine Kd.R_append (Kd.int .u8) (w0 := w) w.heap.size rfl (.tmp 151) (.tmp 152) 22 5 (.int .u8 0) 1 rfl Try.underlying22 info5 rfl (by decide) (by omega) v305 y304 32 [.int .u8 32] (fun _ => True) (fun _ => False) rfl rfl ?aP (fun _ hk => hk.elim) ?aF ?aO ?aB ?aS ?aL ?_; (case aP => exact rfl); (case aB => exact z3q2); (case aF => exact (fun _ _ => trivial)); (case aO => exact z3q20); (case aS => exact (below_size z3q2)); (case aL => have := LMc129.out; omega); intro v308 w134 ho hb hg hat; rw [← Ny307.out] at ho; have n0_ := Aside0.mk (Kd.R_over' z3q5 (Kd.R_typed z3q20) (by decide) hg); have n1_ := Aside0.mk (blk_grown (g := gb272) (o := .cells #[.int .i64 t270, .int .i64 t271] 27 (0, 0)) z3q3 hg (Kd.R_ne HO306.out BK272.out (by decide))); have n2_ := Aside0.mk (blk_grown (g := gb278) (o := .cells #[.int .i64 t276, .int .i64 t277] 27 (0, 0)) z3q4 hg (Kd.R_ne HO306.out BK278.out (by decide))); have n3_ := Aside0.mk (blk_grown (g := gb283) (o := .cells #[.int .i64 ((rd_T31 t267 x9_2).f0), .string ((rd_T31 t267 x9_2).f1), .int .i64 ((rd_T31 t267 x9_2).f2), .int .i64 ((rd_T31 t267 x9_2).f3)] 31 (0, 0)) z3q8 hg (Kd.R_ne HO306.out BK283.out (by decide))); have n4_ := Aside0.mk (hb); have n5_ := Aside0.mk (ho); clear HO_4; clear BK272; clear BK278; clear BK283; clear HB; clear HO306; have HO_4 := n0_; have BK272 := n1_; have BK278 := n2_; have BK283 := n3_; have HB := n4_; have HO309 := n5_; clear n0_ n1_ n2_ n3_ n4_ n5_; clear ho hb hg hat)); try go_wp2_with (first | (at_builtin; refine print_append_str (w0 := w) w.heap.size rfl (.tmp 148) _ 22 9 5 rfl Try.underlying22 Try.underlying9 info5 u8 x8_2 ((rd_T31 t267 x9_2).f1) rfl rfl ?aO ?aB ?aS ?aL ?_; (case aB => exact z3q2); (case aO => exact (Kd.own_of_R z3q6)); (case aS => exact (below_size z3q2)); (case aL => have := LMc128.out; omega); intro v305 w133 ho0 hb hg; have ho := Kd.R_of_own (h1 := fun _ => rfl) (ok := fun _ => True) ho0 (fun _ _ => trivial); clear ho0; have hat := True.intro; rw [← Ny304.out] at ho; change Kd.R (Kd.int .u8) 5 w133 w.heap.size (fun _ => True) v305 y304 at ho; have n0_ := Aside0.mk (Kd.R_over' z3q5 (Kd.R_typed z3q6) (by decide) hg); have n1_ := Aside0.mk (blk_grown (g := gb272) (o := .cells #[.int .i64 t270, .int .i64 t271] 27 (0, 0)) z3q3 hg (Kd.R_ne HO_8.out BK272.out (by decide))); have n2_ := Aside0.mk (blk_grown (g := gb278) (o := .cells #[.int .i64 t276, .int .i64 t277] 27 (0, 0)) z3q4 hg (Kd.R_ne HO_8.out BK278.out (by decide))); have n3_ := Aside0.mk (blk_grown (g := gb283) (o := .cells #[.int .i64 ((rd_T31 t267 x9_2).f0), .string ((rd_T31 t267 x9_2).f1), .int .i64 ((rd_T31 t267 x9_2).f2), .int .i64 ((rd_T31 t267 x9_2).f3)] 31 (0, 0)) z3q8 hg (Kd.R_ne HO_8.out BK283.out (by decide))); have n4_ := Aside0.mk (hb); have n5_ := Aside0.mk (ho); clear HO_4; clear BK272; clear BK278; clear BK283; clear HB; clear HO_8; have HO_4 := n0_; have BK272 := n1_; have BK278 := n2_; have BK283 := n3_; have HB := n4_; have HO306 := n5_; clear n0_ n1_ n2_ n3_ n4_ n5_; clear ho hb hg hat) | ((with_reducible refine gate_builtin (b := .append) (xs := #[.tmp 151, .tmp 152]) rfl ?_); (try (refine gate_guard (by rfl) ?_; dsimp only)); at_builtin; refine Kd.R_append (Kd.int .u8) (w0 := w) w.heap.size rfl (.tmp 151) (.tmp 152) 22 5 (.int .u8 0) 1 rfl Try.underlying22 info5 rfl (by decide) (by omega) v305 y304 32 [.int .u8 32] (fun _ => True) (fun _ => False) rfl rfl ?aP (fun _ hk => hk.elim) ?aF ?aO ?aB ?aS ?aL ?_; (case aP => exact rfl); (case aB => exact z3q2); (case aF => exact (fun _ _ => trivial)); (case aO => exact z3q20); (case aS => exact (below_size z3q2)); (case aL => have := LMc129.out; omega); intro v308 w134 ho hb hg hat; rw [← Ny307.out] at ho; have n0_ := Aside0.mk (Kd.R_over' z3q5 (Kd.R_typed z3q20) (by decide) hg); have n1_ := Aside0.mk (blk_grown (g := gb272) (o := .cells #[.int .i64 t270, .int .i64 t271] 27 (0, 0)) z3q3 hg (Kd.R_ne HO306.out BK272.out (by decide))); have n2_ := Aside0.mk (blk_grown (g := gb278) (o := .cells #[.int .i64 t276, .int .i64 t277] 27 (0, 0)) z3q4 hg (Kd.R_ne HO306.out BK278.out (by decide))); have n3_ := Aside0.mk (blk_grown (g := gb283) (o := .cells #[.int .i64 ((rd_T31 t267 x9_2).f0), .string ((rd_T31 t267 x9_2).f1), .int .i64 ((rd_T31 t267 x9_2).f2), .int .i64 ((rd_T31 t267 x9_2).f3)] 31 (0, 0)) z3q8 hg (Kd.R_ne HO306.out BK283.out (by decide))); have n4_ := Aside0.mk (hb); have n5_ := Aside0.mk (ho); clear HO_4; clear BK272; clear BK278; clear BK283; clear HB; clear HO306; have HO_4 := n0_; have BK272 := n1_; have BK278 := n2_; have BK283 := n3_; have HB := n4_; have HO309 := n5_; clear n0_ n1_ n2_ n3_ n4_ n5_; clear ho hb hg hat)))
                     go_roundg kj61
                     case measure => have := HJ6.out; have := HK2.out; have := HJ33.out; have := HJ61.out; omega
                     case rel => exact ⟨(y307), (wrap64 (x9_2 + 1)), z3q19, H', ⟨by have := HJ6.out; have := HK2.out; have := HJ33.out; have := HJ61.out; omega⟩, ⟨by (with_reducible repeat (first | apply Kd.R_alloc | apply Kd.R_drewN | apply Kd.R_drew)); exact Kd.R_mono HO_4.out (fun _ hk => trivial)⟩, ⟨by (with_reducible repeat (first | apply Kd.R_alloc | apply Kd.R_drewN | apply Kd.R_drew)); exact HO309.out⟩, ⟨by (with_reducible repeat (first | refine blk_drewN ?_ _ | refine blk_drew ?_ | refine blk_alloc ?_ _)); exact BK272.out⟩, ⟨by (with_reducible repeat (first | refine blk_drewN ?_ _ | refine blk_drew ?_ | refine blk_alloc ?_ _)); exact BK278.out⟩, ⟨by repeat (first | (with_reducible first | exact HB.out | apply below_alloc | apply pw_below_drewN | apply below_drew1 | refine below_set ?_ GE272.out | refine below_set ?_ GE278.out | refine below_set ?_ GE283.out) | exact HB.out)⟩⟩
                    next => as_aux_lemma =>
                     rw [if_neg c129] at H
                     exact absurd H (by simp)
                   next => as_aux_lemma =>
                    rw [if_neg c128] at H
                    exact absurd H (by simp)
               next => as_aux_lemma =>
                rw [if_neg c61] at H
                exact absurd H (by simp)
              next => as_aux_lemma =>
               rw [if_neg c60] at H
               exact absurd H (by simp)
          next => as_aux_lemma =>
           rw [if_neg c33] at H
           exact absurd H (by simp)
         next => as_aux_lemma =>
          rw [if_neg c32] at H
          exact absurd H (by simp)
        next => as_aux_lemma =>
         rw [if_neg c31] at H
         have c31b0 : decide ((wrap64 (x9_2 + 1)) < (t267.length : Int)) = false := decide_eq_false c31
         clear c31
         replace H := Option.bind_eq_some_iff.mp H
         obtain ⟨⟨t310, t313, t314⟩, A1350, H⟩ := H
         replace H : (if t313 = 0 then (if (t310.length : Int) = (t267.length : Int) then (laws_FnWords.l3 k2 t267 t310 0) else (some false)) else (some (t313 == 14))) = some r := H
         have A135 := Aside0.mk A1350
         clear A1350
         by_cases c136 : t313 = 0
         next => as_aux_lemma =>
          rw [if_pos c136] at H
          have c136b0 : (t313 == 0) = true := beq_iff_eq.mpr c136
          have c136b1 : (t313 != 0) = false := bne_eq_false_iff_eq.mpr c136
          clear c136
          by_cases c137 : (t310.length : Int) = (t267.length : Int)
          next => as_aux_lemma =>
           rw [if_pos c137] at H
           have c137b0 : ((t310.length : Int) == (t267.length : Int)) = true := beq_iff_eq.mpr c137
           have c137b1 : ((t310.length : Int) != (t267.length : Int)) = false := bne_eq_false_iff_eq.mpr c137
           have c137b2 : (t310.length == t267.length) = true := by first | simpa using c137 | (simp at c137 ⊢; omega)
           clear c137
           have H' := Aside0.mk H
           clear H
           obtain ⟨Ao138, co138, eo138⟩ := Kd.R_slice HO_4.out
           subst eo138
           have hcv139 := own_string (P := Try.prog) Try.underlying22 Try.underlying5 Try.underlying9 (Kd.own_of_R HO_8.out)
           go_wp2_with (first | (go_at_call 11; (with_reducible refine (impl_Lex.calls k2 (strOfNums x8_2) t310 t313 t314 _ A135.out).mono ?_); rintro e w140 ⟨v311, rfl, ho0, hb⟩; have n0_ := Aside0.mk (Kd.R_elder' z3q5 (Kd.R_base ho0) hb); have n1_ := Aside0.mk (Kd.R_below z3q6 hb); have n2_ := Aside0.mk (Kd.R_lower (Kd.R_new' ho0 (Kd.R_lt z3q5)) (below_size z3q1)); have n3_ := Aside0.mk (blk_below (g := gb272) (o := .cells #[.int .i64 t270, .int .i64 t271] 27 (0, 0)) z3q3 hb); have n4_ := Aside0.mk (blk_below (g := gb278) (o := .cells #[.int .i64 t276, .int .i64 t277] 27 (0, 0)) z3q4 hb); have n5_ := Aside0.mk (below_step z3q1 hb); clear HO_4; clear HO_8; clear BK272; clear BK278; clear HB; have HO_4 := n0_; have HO_8 := n1_; have HO312 := n2_; have BK272 := n3_; have BK278 := n4_; have HB := n5_; clear n0_ n1_ n2_ n3_ n4_ n5_; (try clear hb); (try clear hb2); (try clear hk); (try clear hi); (try clear ho0)) | ((with_reducible refine gate_dst (N := 14) rfl ?_); (try (refine gate_guard (by rfl) ?_; dsimp only)); refine box_event ?hg (N := 14) ?hd (cs := #[.int .i64 0, .int .i64 0]) (t := 27) ?hr ?_; (case hd => rfl); (case hg => rfl); (case hr => first | (go_simp; done) | (go_simp; rfl)); intro gb315 hg w141 hbox hb; have n0_ := Aside0.mk (Kd.R_below z3q5 hb); have n1_ := Aside0.mk (Kd.R_below z3q6 hb); have n2_ := Aside0.mk (Kd.R_below z3q17 hb); have n3_ := Aside0.mk (blk_below (g := gb272) (o := .cells #[.int .i64 t270, .int .i64 t271] 27 (0, 0)) z3q3 hb); have n4_ := Aside0.mk (blk_below (g := gb278) (o := .cells #[.int .i64 t276, .int .i64 t277] 27 (0, 0)) z3q4 hb); have n5_ := Aside0.mk (below_step z3q1 hb); have n6_ := Aside0.mk (hbox); have n7_ := Aside0.mk ((z3q18 : w.heap.size ≤ gb315)); have n8_ := Aside0.mk ((z3q18 : w.heap.size ≤ gb315)); have n9_ := Aside0.mk ((z3q12 : gb272 ≠ gb315)); have n10_ := Aside0.mk ((z3q13 : gb315 ≠ gb272)); have n11_ := Aside0.mk ((z3q14 : gb278 ≠ gb315)); have n12_ := Aside0.mk ((z3q15 : gb315 ≠ gb278)); clear HO_4; clear HO_8; clear HO312; clear BK272; clear BK278; clear HB; have HO_4 := n0_; have HO_8 := n1_; have HO312 := n2_; have BK272 := n3_; have BK278 := n4_; have HB := n5_; have BK315 := n6_; have GW315 := n7_; have GE315 := n8_; have NB272_315 := n9_; have NB315_272 := n10_; have NB278_315 := n11_; have NB315_278 := n12_; clear n0_ n1_ n2_ n3_ n4_ n5_ n6_ n7_ n8_ n9_ n10_ n11_ n12_; clear hb hbox hg; have hnb142 := NB315_272.out; have hnc142 := NB272_315.out; have hnb143 := NB315_278.out; have hnc143 := NB278_315.out; have hcz144_0 : w141.cell? ⟨gb315, 0, none⟩ = some (.int .i64 0) := (blk_cell BK315.out 0).trans rfl; have hcz144_1 : w141.cell? ⟨gb315, 1, none⟩ = some (.int .i64 0) := (blk_cell BK315.out 1).trans rfl; have hfz144_0 := blk_frozen BK315.out 0; have hfz144_1 := blk_frozen BK315.out 1; obtain ⟨Ao145, co145, eo145⟩ := Kd.R_slice HO312.out; subst eo145))
           repeat (go_quiet (first | (go_at_call 11; (with_reducible refine (impl_Lex.calls k2 (strOfNums x8_2) t310 t313 t314 _ A135.out).mono ?_); rintro e w140 ⟨v311, rfl, ho0, hb⟩; have n0_ := Aside0.mk (Kd.R_elder' z3q5 (Kd.R_base ho0) hb); have n1_ := Aside0.mk (Kd.R_below z3q6 hb); have n2_ := Aside0.mk (Kd.R_lower (Kd.R_new' ho0 (Kd.R_lt z3q5)) (below_size z3q1)); have n3_ := Aside0.mk (blk_below (g := gb272) (o := .cells #[.int .i64 t270, .int .i64 t271] 27 (0, 0)) z3q3 hb); have n4_ := Aside0.mk (blk_below (g := gb278) (o := .cells #[.int .i64 t276, .int .i64 t277] 27 (0, 0)) z3q4 hb); have n5_ := Aside0.mk (below_step z3q1 hb); clear HO_4; clear HO_8; clear BK272; clear BK278; clear HB; have HO_4 := n0_; have HO_8 := n1_; have HO312 := n2_; have BK272 := n3_; have BK278 := n4_; have HB := n5_; clear n0_ n1_ n2_ n3_ n4_ n5_; (try clear hb); (try clear hb2); (try clear hk); (try clear hi); (try clear ho0)) | ((with_reducible refine gate_dst (N := 14) rfl ?_); (try (refine gate_guard (by rfl) ?_; dsimp only)); refine box_event ?hg (N := 14) ?hd (cs := #[.int .i64 0, .int .i64 0]) (t := 27) ?hr ?_; (case hd => rfl); (case hg => rfl); (case hr => first | (go_simp; done) | (go_simp; rfl)); intro gb315 hg w141 hbox hb; have n0_ := Aside0.mk (Kd.R_below z3q5 hb); have n1_ := Aside0.mk (Kd.R_below z3q6 hb); have n2_ := Aside0.mk (Kd.R_below z3q17 hb); have n3_ := Aside0.mk (blk_below (g := gb272) (o := .cells #[.int .i64 t270, .int .i64 t271] 27 (0, 0)) z3q3 hb); have n4_ := Aside0.mk (blk_below (g := gb278) (o := .cells #[.int .i64 t276, .int .i64 t277] 27 (0, 0)) z3q4 hb); have n5_ := Aside0.mk (below_step z3q1 hb); have n6_ := Aside0.mk (hbox); have n7_ := Aside0.mk ((z3q18 : w.heap.size ≤ gb315)); have n8_ := Aside0.mk ((z3q18 : w.heap.size ≤ gb315)); have n9_ := Aside0.mk ((z3q12 : gb272 ≠ gb315)); have n10_ := Aside0.mk ((z3q13 : gb315 ≠ gb272)); have n11_ := Aside0.mk ((z3q14 : gb278 ≠ gb315)); have n12_ := Aside0.mk ((z3q15 : gb315 ≠ gb278)); clear HO_4; clear HO_8; clear HO312; clear BK272; clear BK278; clear HB; have HO_4 := n0_; have HO_8 := n1_; have HO312 := n2_; have BK272 := n3_; have BK278 := n4_; have HB := n5_; have BK315 := n6_; have GW315 := n7_; have GE315 := n8_; have NB272_315 := n9_; have NB315_272 := n10_; have NB278_315 := n11_; have NB315_278 := n12_; clear n0_ n1_ n2_ n3_ n4_ n5_ n6_ n7_ n8_ n9_ n10_ n11_ n12_; clear hb hbox hg; have hnb142 := NB315_272.out; have hnc142 := NB272_315.out; have hnb143 := NB315_278.out; have hnc143 := NB278_315.out; have hcz144_0 : w141.cell? ⟨gb315, 0, none⟩ = some (.int .i64 0) := (blk_cell BK315.out 0).trans rfl; have hcz144_1 : w141.cell? ⟨gb315, 1, none⟩ = some (.int .i64 0) := (blk_cell BK315.out 1).trans rfl; have hfz144_0 := blk_frozen BK315.out 0; have hfz144_1 := blk_frozen BK315.out 1; obtain ⟨Ao145, co145, eo145⟩ := Kd.R_slice HO312.out; subst eo145)); try go_wp2_with (first | (go_at_call 11; (with_reducible refine (impl_Lex.calls k2 (strOfNums x8_2) t310 t313 t314 _ A135.out).mono ?_); rintro e w140 ⟨v311, rfl, ho0, hb⟩; have n0_ := Aside0.mk (Kd.R_elder' z3q5 (Kd.R_base ho0) hb); have n1_ := Aside0.mk (Kd.R_below z3q6 hb); have n2_ := Aside0.mk (Kd.R_lower (Kd.R_new' ho0 (Kd.R_lt z3q5)) (below_size z3q1)); have n3_ := Aside0.mk (blk_below (g := gb272) (o := .cells #[.int .i64 t270, .int .i64 t271] 27 (0, 0)) z3q3 hb); have n4_ := Aside0.mk (blk_below (g := gb278) (o := .cells #[.int .i64 t276, .int .i64 t277] 27 (0, 0)) z3q4 hb); have n5_ := Aside0.mk (below_step z3q1 hb); clear HO_4; clear HO_8; clear BK272; clear BK278; clear HB; have HO_4 := n0_; have HO_8 := n1_; have HO312 := n2_; have BK272 := n3_; have BK278 := n4_; have HB := n5_; clear n0_ n1_ n2_ n3_ n4_ n5_; (try clear hb); (try clear hb2); (try clear hk); (try clear hi); (try clear ho0)) | ((with_reducible refine gate_dst (N := 14) rfl ?_); (try (refine gate_guard (by rfl) ?_; dsimp only)); refine box_event ?hg (N := 14) ?hd (cs := #[.int .i64 0, .int .i64 0]) (t := 27) ?hr ?_; (case hd => rfl); (case hg => rfl); (case hr => first | (go_simp; done) | (go_simp; rfl)); intro gb315 hg w141 hbox hb; have n0_ := Aside0.mk (Kd.R_below z3q5 hb); have n1_ := Aside0.mk (Kd.R_below z3q6 hb); have n2_ := Aside0.mk (Kd.R_below z3q17 hb); have n3_ := Aside0.mk (blk_below (g := gb272) (o := .cells #[.int .i64 t270, .int .i64 t271] 27 (0, 0)) z3q3 hb); have n4_ := Aside0.mk (blk_below (g := gb278) (o := .cells #[.int .i64 t276, .int .i64 t277] 27 (0, 0)) z3q4 hb); have n5_ := Aside0.mk (below_step z3q1 hb); have n6_ := Aside0.mk (hbox); have n7_ := Aside0.mk ((z3q18 : w.heap.size ≤ gb315)); have n8_ := Aside0.mk ((z3q18 : w.heap.size ≤ gb315)); have n9_ := Aside0.mk ((z3q12 : gb272 ≠ gb315)); have n10_ := Aside0.mk ((z3q13 : gb315 ≠ gb272)); have n11_ := Aside0.mk ((z3q14 : gb278 ≠ gb315)); have n12_ := Aside0.mk ((z3q15 : gb315 ≠ gb278)); clear HO_4; clear HO_8; clear HO312; clear BK272; clear BK278; clear HB; have HO_4 := n0_; have HO_8 := n1_; have HO312 := n2_; have BK272 := n3_; have BK278 := n4_; have HB := n5_; have BK315 := n6_; have GW315 := n7_; have GE315 := n8_; have NB272_315 := n9_; have NB315_272 := n10_; have NB278_315 := n11_; have NB315_278 := n12_; clear n0_ n1_ n2_ n3_ n4_ n5_ n6_ n7_ n8_ n9_ n10_ n11_ n12_; clear hb hbox hg; have hnb142 := NB315_272.out; have hnc142 := NB272_315.out; have hnb143 := NB315_278.out; have hnc143 := NB278_315.out; have hcz144_0 : w141.cell? ⟨gb315, 0, none⟩ = some (.int .i64 0) := (blk_cell BK315.out 0).trans rfl; have hcz144_1 : w141.cell? ⟨gb315, 1, none⟩ = some (.int .i64 0) := (blk_cell BK315.out 1).trans rfl; have hfz144_0 := blk_frozen BK315.out 0; have hfz144_1 := blk_frozen BK315.out 1; obtain ⟨Ao145, co145, eo145⟩ := Kd.R_slice HO312.out; subst eo145)))
           go_loopg [15] k2 (fun kq v15 w' => ∃ (x15_3 : Int), v15 = .int .i64 x15_3 ∧ Aside0 (laws_FnWords.l3 kq t267 t310 x15_3 = some r) ∧ Aside0 (kq ≤ k2) ∧ Aside0 (Kd.R k31 31 w' w.heap.size (fun k_ => some k_ ≠ ((.slice Ao145 t310.length co145) : Value).ownBlock) (.slice Ao138 t267.length co138) t267) ∧ Aside0 (Kd.R k31 31 w' w.heap.size (fun k_ => some k_ ≠ ((.slice Ao138 t267.length co138) : Value).ownBlock) (.slice Ao145 t310.length co145) t310) ∧ Aside0 (w'.heap[gb272]? = some (.cells #[.int .i64 t270, .int .i64 t271] 27 (0, 0))) ∧ Aside0 (w'.heap[gb278]? = some (.cells #[.int .i64 t276, .int .i64 t277] 27 (0, 0))) ∧ Aside0 (w'.heap[gb315]? = some (.cells #[.int .i64 t313, .int .i64 t314] 27 (0, 0))) ∧ Aside0 (Below w.heap.size w w'))
           case atStart => exact ⟨(0), z3q19, H', ⟨Nat.le_refl _⟩, ⟨by (with_reducible repeat (first | apply Kd.R_alloc | apply Kd.R_drewN | apply Kd.R_drew)); exact Kd.R_mono (Kd.R_far (p := ⟨gb315, 1, none⟩) (Kd.R_far (p := ⟨gb315, 0, none⟩) (Kd.R_types HO_4.out BK315.out (by decide)) (fun _ hk => hk.2) (.int .i64 t313)) (fun _ hk => hk.2) (.int .i64 t314)) (fun _ hk => hk.1.2)⟩, ⟨by (with_reducible repeat (first | apply Kd.R_alloc | apply Kd.R_drewN | apply Kd.R_drew)); exact Kd.R_mono (Kd.R_far (p := ⟨gb315, 1, none⟩) (Kd.R_far (p := ⟨gb315, 0, none⟩) (Kd.R_types HO312.out BK315.out (by decide)) (fun _ hk => hk.2) (.int .i64 t313)) (fun _ hk => hk.2) (.int .i64 t314)) (fun _ hk => hk.1.2)⟩, ⟨by (with_reducible repeat (first | refine blk_drewN ?_ _ | refine blk_drew ?_ | refine blk_alloc ?_ _)); refine blk_far ?_ NB272_315.out _; (with_reducible repeat (first | refine blk_drewN ?_ _ | refine blk_drew ?_ | refine blk_alloc ?_ _)); refine blk_far ?_ NB272_315.out _; (with_reducible repeat (first | refine blk_drewN ?_ _ | refine blk_drew ?_ | refine blk_alloc ?_ _)); exact BK272.out⟩, ⟨by (with_reducible repeat (first | refine blk_drewN ?_ _ | refine blk_drew ?_ | refine blk_alloc ?_ _)); refine blk_far ?_ NB278_315.out _; (with_reducible repeat (first | refine blk_drewN ?_ _ | refine blk_drew ?_ | refine blk_alloc ?_ _)); refine blk_far ?_ NB278_315.out _; (with_reducible repeat (first | refine blk_drewN ?_ _ | refine blk_drew ?_ | refine blk_alloc ?_ _)); exact BK278.out⟩, ⟨by (with_reducible repeat (first | refine blk_drewN ?_ _ | refine blk_drew ?_ | refine blk_alloc ?_ _)); refine blk_put (cs := #[.int .i64 t313, .int .i64 0]) ?_ 1 _ rfl; (with_reducible repeat (first | refine blk_drewN ?_ _ | refine blk_drew ?_ | refine blk_alloc ?_ _)); refine blk_put (cs := #[.int .i64 0, .int .i64 0]) ?_ 0 _ rfl; (with_reducible repeat (first | refine blk_drewN ?_ _ | refine blk_drew ?_ | refine blk_alloc ?_ _)); exact BK315.out⟩, ⟨by repeat (first | (with_reducible first | exact HB.out | apply below_alloc | apply pw_below_drewN | apply below_drew1 | refine below_set ?_ GE272.out | refine below_set ?_ GE278.out | refine below_set ?_ GE315.out) | exact HB.out)⟩⟩
           case round =>
            clear H'
            try clear c1
            try clear hcv1
            try clear c2
            try clear p2
            try clear q2
            try clear hx2
            try clear c3
            try clear c4
            try clear c5
            try clear c6
            try clear p6
            try clear q6
            try clear hx6
            try clear c7
            try clear p7
            try clear q7
            try clear hx7
            try clear c8
            try clear c9
            try clear p9
            try clear q9
            try clear hx9
            try clear c10
            try clear c11
            try clear c12
            try clear c13
            try clear hcv13
            try clear c14
            try clear c16
            try clear c16b0
            try clear c17
            try clear c20
            try clear c25
            try clear c26
            try clear c26b0
            try clear c26b1
            try clear c27
            try clear p28
            try clear q28
            try clear hx28
            try clear c31
            try clear c31b0
            try clear c32
            try clear c32b0
            try clear c33
            try clear c33b0
            try clear c37
            try clear c38
            try clear c40
            try clear c40b0
            try clear c41
            try clear c42
            try clear c44
            try clear c44b0
            try clear c45
            try clear c46
            try clear c48
            try clear c48b0
            try clear c50
            try clear c50b0
            try clear c51
            try clear c51b0
            try clear c52
            try clear c53
            try clear c55
            try clear c56
            try clear c58
            try clear c60
            try clear c60b0
            try clear c61
            try clear c61b0
            try clear c63
            try clear c63b0
            try clear p64
            try clear c65
            try clear c65b0
            try clear c66
            try clear c66b0
            try clear p67
            try clear q67
            try clear hx67
            try clear c68
            try clear c68b0
            try clear c68b1
            try clear c69
            try clear c70
            try clear p72
            try clear q72
            try clear hx72
            try clear c73
            try clear c73b0
            try clear c73b1
            try clear c74
            try clear c75
            try clear p77
            try clear q77
            try clear hx77
            try clear c78
            try clear c78b0
            try clear c78b1
            try clear c79
            try clear c80
            try clear c82
            try clear c83
            try clear c85
            try clear c86
            try clear c88
            try clear c88b0
            try clear c88b1
            try clear c89
            try clear c90
            try clear c92
            try clear c92b0
            try clear c93
            try clear c93b0
            try clear p94
            try clear q94
            try clear hx94
            try clear c95
            try clear c95b0
            try clear p96
            try clear q96
            try clear hx96
            try clear c97
            try clear c97b0
            try clear c98
            try clear c98b0
            try clear c98b1
            try clear c99
            try clear c99b0
            try clear c99b1
            try clear c100
            try clear c100b0
            try clear c100b1
            try clear c101
            try clear c102
            try clear c103
            try clear c104
            try clear c108
            try clear c108b0
            try clear c108b1
            try clear c109
            try clear c109b0
            try clear c109b1
            try clear c110
            try clear c110b0
            try clear c110b1
            try clear c111
            try clear c112
            try clear c113
            try clear c114
            try clear c118
            try clear c118b0
            try clear c118b1
            try clear c119
            try clear c119b0
            try clear c119b1
            try clear c120
            try clear c120b0
            try clear c120b1
            try clear c121
            try clear c122
            try clear c123
            try clear c124
            try clear c128
            try clear c129
            try clear c130
            try clear c131
            try clear c136
            try clear c136b0
            try clear c136b1
            try clear c137
            try clear c137b0
            try clear c137b1
            try clear c137b2
            try clear hcv139
            try clear c142
            try clear c143
            try clear hcz105_0
            try clear hcz105_1
            try clear hcz105_2
            try clear hcz105_3
            try clear hcz115_0
            try clear hcz115_1
            try clear hcz115_2
            try clear hcz115_3
            try clear hcz11_0
            try clear hcz11_1
            try clear hcz125_0
            try clear hcz125_1
            try clear hcz125_2
            try clear hcz125_3
            try clear hcz132_0
            try clear hcz132_1
            try clear hcz132_2
            try clear hcz132_3
            try clear hcz144_0
            try clear hcz144_1
            try clear hcz15_0
            try clear hcz15_1
            try clear hcz18_0
            try clear hcz18_1
            try clear hcz19_0
            try clear hcz19_1
            try clear hcz21_0
            try clear hcz21_1
            try clear hcz22_0
            try clear hcz22_1
            try clear hcz28_0
            try clear hcz28_1
            try clear hcz39_0
            try clear hcz39_1
            try clear hcz39_2
            try clear hcz39_3
            try clear hcz43_0
            try clear hcz43_1
            try clear hcz43_2
            try clear hcz43_3
            try clear hcz47_0
            try clear hcz47_1
            try clear hcz47_2
            try clear hcz47_3
            try clear hcz54_0
            try clear hcz54_1
            try clear hcz54_2
            try clear hcz54_3
            try clear hcz57_0
            try clear hcz57_1
            try clear hcz57_2
            try clear hcz57_3
            try clear hcz71_0
            try clear hcz71_1
            try clear hcz71_2
            try clear hcz71_3
            try clear hcz76_0
            try clear hcz76_1
            try clear hcz76_2
            try clear hcz76_3
            try clear hcz81_0
            try clear hcz81_1
            try clear hcz81_2
            try clear hcz81_3
            try clear hcz84_0
            try clear hcz84_1
            try clear hcz84_2
            try clear hcz84_3
            try clear hcz87_0
            try clear hcz87_1
            try clear hcz87_2
            try clear hcz87_3
            try clear hcz91_0
            try clear hcz91_1
            try clear hcz91_2
            try clear hcz91_3
            try clear hfz105_0
            try clear hfz105_1
            try clear hfz105_2
            try clear hfz105_3
            try clear hfz115_0
            try clear hfz115_1
            try clear hfz115_2
            try clear hfz115_3
            try clear hfz11_0
            try clear hfz11_1
            try clear hfz125_0
            try clear hfz125_1
            try clear hfz125_2
            try clear hfz125_3
            try clear hfz132_0
            try clear hfz132_1
            try clear hfz132_2
            try clear hfz132_3
            try clear hfz144_0
            try clear hfz144_1
            try clear hfz15_0
            try clear hfz15_1
            try clear hfz18_0
            try clear hfz18_1
            try clear hfz19_0
            try clear hfz19_1
            try clear hfz21_0
            try clear hfz21_1
            try clear hfz22_0
            try clear hfz22_1
            try clear hfz28_0
            try clear hfz28_1
            try clear hfz39_0
            try clear hfz39_1
            try clear hfz39_2
            try clear hfz39_3
            try clear hfz43_0
            try clear hfz43_1
            try clear hfz43_2
            try clear hfz43_3
            try clear hfz47_0
            try clear hfz47_1
            try clear hfz47_2
            try clear hfz47_3
            try clear hfz54_0
            try clear hfz54_1
            try clear hfz54_2
            try clear hfz54_3
            try clear hfz57_0
            try clear hfz57_1
            try clear hfz57_2
            try clear hfz57_3
            try clear hfz71_0
            try clear hfz71_1
            try clear hfz71_2
            try clear hfz71_3
            try clear hfz76_0
            try clear hfz76_1
            try clear hfz76_2
            try clear hfz76_3
            try clear hfz81_0
            try clear hfz81_1
            try clear hfz81_2
            try clear hfz81_3
            try clear hfz84_0
            try clear hfz84_1
            try clear hfz84_2
            try clear hfz84_3
            try clear hfz87_0
            try clear hfz87_1
            try clear hfz87_2
            try clear hfz87_3
            try clear hfz91_0
            try clear hfz91_1
            try clear hfz91_2
            try clear hfz91_3
            try clear hx282_0
            try clear hx282_1
            try clear hx282_2
            try clear hx282_3
            try clear hx284_0
            try clear hx284_1
            try clear hx284_2
            try clear hx284_3
            try clear hx285_0
            try clear hx285_1
            try clear hx285_2
            try clear hx285_3
            try clear p2
            try clear p28
            try clear p282
            try clear p284
            try clear p285
            try clear p6
            try clear p64
            try clear p67
            try clear p7
            try clear p72
            try clear p77
            try clear p94
            try clear p96
            try clear q2
            try clear q28
            try clear q282
            try clear q284
            try clear q285
            try clear q6
            try clear q67
            try clear q7
            try clear q72
            try clear q77
            try clear q94
            try clear q96
            obtain ⟨x15_3, rfl, HA, HK3, HO_4, HO_13, BK272, BK278, BK315, HB⟩ := hrel
            cases gk with
            | zero => exact absurd HA.out (by simp [laws_FnWords.l3])
            | succ k3 =>
             have H := HA.out
             clear HA
             simp only [laws_FnWords.l3] at H
             by_cases c146 : x15_3 < (t267.length : Int)
             next => as_aux_lemma =>
              rw [if_pos c146] at H
              have c146b0 : decide (x15_3 < (t267.length : Int)) = true := decide_eq_true c146
              clear c146
              by_cases c147 : 0 ≤ x15_3
              next => as_aux_lemma =>
               rw [if_pos c147] at H
               have c147b0 : decide (0 ≤ x15_3) = true := decide_eq_true c147
               clear c147
               by_cases c148 : x15_3 < (t310.length : Int)
               next => as_aux_lemma =>
                rw [if_pos c148] at H
                have c148b0 : decide (x15_3 < (t310.length : Int)) = true := decide_eq_true c148
                clear c148
                by_cases c149 : ((rd_T31 t310 x15_3).f0) = ((rd_T31 t267 x15_3).f0)
                next => as_aux_lemma =>
                 rw [if_pos c149] at H
                 have c149b0 : (((rd_T31 t310 x15_3).f0) == ((rd_T31 t267 x15_3).f0)) = true := beq_iff_eq.mpr c149
                 have c149b1 : (((rd_T31 t310 x15_3).f0) != ((rd_T31 t267 x15_3).f0)) = false := bne_eq_false_iff_eq.mpr c149
                 clear c149
                 by_cases c150 : ((rd_T31 t310 x15_3).f1).toList = ((rd_T31 t267 x15_3).f1).toList
                 next => as_aux_lemma =>
                  rw [if_pos c150] at H
                  have c150b0 : (((rd_T31 t310 x15_3).f1).toList == ((rd_T31 t267 x15_3).f1).toList) = true := beq_iff_eq.mpr c150
                  have c150b1 : (((rd_T31 t310 x15_3).f1).toList != ((rd_T31 t267 x15_3).f1).toList) = false := bne_eq_false_iff_eq.mpr c150
                  clear c150
                  by_cases c151 : ((rd_T31 t310 x15_3).f2) = ((rd_T31 t267 x15_3).f2)
                  next => as_aux_lemma =>
                   rw [if_pos c151] at H
                   have c151b0 : (((rd_T31 t310 x15_3).f2) == ((rd_T31 t267 x15_3).f2)) = true := beq_iff_eq.mpr c151
                   have c151b1 : (((rd_T31 t310 x15_3).f2) != ((rd_T31 t267 x15_3).f2)) = false := bne_eq_false_iff_eq.mpr c151
                   clear c151
                   have H' := Aside0.mk H
                   clear H
                   have p316 : 0 ≤ (x15_3 : Int) := of_decide_eq_true z3q7
                   have q316 : x15_3 < (t310.length : Int) := of_decide_eq_true z3q7
                   obtain ⟨ad316, e316, hx316_0, hx316_1, hx316_2, hx316_3⟩ := at_T31 (Kd.R_reads' HO_13.out).2.2 x15_3 p316 q316
                   cases e316
                   replace p316 := eq_true p316
                   replace q316 := eq_true q316
                   have p317 : 0 ≤ (x15_3 : Int) := of_decide_eq_true z3q7
                   have q317 : x15_3 < (t267.length : Int) := of_decide_eq_true z3q7
                   obtain ⟨ad317, e317, hx317_0, hx317_1, hx317_2, hx317_3⟩ := at_T31 (Kd.R_reads' HO_4.out).2.2 x15_3 p317 q317
                   cases e317
                   replace p317 := eq_true p317
                   replace q317 := eq_true q317
                   have p318 : 0 ≤ (x15_3 : Int) := of_decide_eq_true z3q7
                   have q318 : x15_3 < (t310.length : Int) := of_decide_eq_true z3q7
                   obtain ⟨ad318, e318, hx318_0, hx318_1, hx318_2, hx318_3⟩ := at_T31 (Kd.R_reads' HO_13.out).2.2 x15_3 p318 q318
                   obtain rfl : ad316 = ad318 := (by injection e318)
                   replace p318 := eq_true p318
                   replace q318 := eq_true q318
                   have p319 : 0 ≤ (x15_3 : Int) := of_decide_eq_true z3q7
                   have q319 : x15_3 < (t267.length : Int) := of_decide_eq_true z3q7
                   obtain ⟨ad319, e319, hx319_0, hx319_1, hx319_2, hx319_3⟩ := at_T31 (Kd.R_reads' HO_4.out).2.2 x15_3 p319 q319
                   obtain rfl : ad317 = ad319 := (by injection e319)
                   replace p319 := eq_true p319
                   replace q319 := eq_true q319
                   have p320 : 0 ≤ (x15_3 : Int) := of_decide_eq_true z3q7
                   have q320 : x15_3 < (t310.length : Int) := of_decide_eq_true z3q7
                   obtain ⟨ad320, e320, hx320_0, hx320_1, hx320_2, hx320_3⟩ := at_T31 (Kd.R_reads' HO_13.out).2.2 x15_3 p320 q320
                   obtain rfl : ad316 = ad320 := (by injection e320)
                   replace p320 := eq_true p320
                   replace q320 := eq_true q320
                   have p321 : 0 ≤ (x15_3 : Int) := of_decide_eq_true z3q7
                   have q321 : x15_3 < (t267.length : Int) := of_decide_eq_true z3q7
                   obtain ⟨ad321, e321, hx321_0, hx321_1, hx321_2, hx321_3⟩ := at_T31 (Kd.R_reads' HO_4.out).2.2 x15_3 p321 q321
                   obtain rfl : ad317 = ad321 := (by injection e321)
                   replace p321 := eq_true p321
                   replace q321 := eq_true q321
                   go_wp2
                   repeat (go_quiet (fail); try go_wp2)
                   go_roundg k3
                   case measure => have := HJ6.out; have := HK2.out; have := HK3.out; omega
                   case rel => exact ⟨(wrap64 (x15_3 + 1)), z3q19, H', ⟨by have := HJ6.out; have := HK2.out; have := HK3.out; omega⟩, ⟨by (with_reducible repeat (first | apply Kd.R_alloc | apply Kd.R_drewN | apply Kd.R_drew)); exact HO_4.out⟩, ⟨by (with_reducible repeat (first | apply Kd.R_alloc | apply Kd.R_drewN | apply Kd.R_drew)); exact HO_13.out⟩, ⟨by (with_reducible repeat (first | refine blk_drewN ?_ _ | refine blk_drew ?_ | refine blk_alloc ?_ _)); exact BK272.out⟩, ⟨by (with_reducible repeat (first | refine blk_drewN ?_ _ | refine blk_drew ?_ | refine blk_alloc ?_ _)); exact BK278.out⟩, ⟨by (with_reducible repeat (first | refine blk_drewN ?_ _ | refine blk_drew ?_ | refine blk_alloc ?_ _)); exact BK315.out⟩, ⟨by repeat (first | (with_reducible first | exact HB.out | apply below_alloc | apply pw_below_drewN | apply below_drew1 | refine below_set ?_ GE272.out | refine below_set ?_ GE278.out | refine below_set ?_ GE315.out) | exact HB.out)⟩⟩
                  next => as_aux_lemma =>
                   rw [if_neg c151] at H
                   have c151b0 : (((rd_T31 t310 x15_3).f2) == ((rd_T31 t267 x15_3).f2)) = false := beq_eq_false_iff_ne.mpr c151
                   have c151b1 : (((rd_T31 t310 x15_3).f2) != ((rd_T31 t267 x15_3).f2)) = true := bne_iff_ne.mpr c151
                   obtain rfl := Option.some.inj H
                   have p316 : 0 ≤ (x15_3 : Int) := of_decide_eq_true z3q7
                   have q316 : x15_3 < (t310.length : Int) := of_decide_eq_true z3q7
                   obtain ⟨ad316, e316, hx316_0, hx316_1, hx316_2, hx316_3⟩ := at_T31 (Kd.R_reads' HO_13.out).2.2 x15_3 p316 q316
                   cases e316
                   replace p316 := eq_true p316
                   replace q316 := eq_true q316
                   have p317 : 0 ≤ (x15_3 : Int) := of_decide_eq_true z3q7
                   have q317 : x15_3 < (t267.length : Int) := of_decide_eq_true z3q7
                   obtain ⟨ad317, e317, hx317_0, hx317_1, hx317_2, hx317_3⟩ := at_T31 (Kd.R_reads' HO_4.out).2.2 x15_3 p317 q317
                   cases e317
                   replace p317 := eq_true p317
                   replace q317 := eq_true q317
                   have p318 : 0 ≤ (x15_3 : Int) := of_decide_eq_true z3q7
                   have q318 : x15_3 < (t310.length : Int) := of_decide_eq_true z3q7
                   obtain ⟨ad318, e318, hx318_0, hx318_1, hx318_2, hx318_3⟩ := at_T31 (Kd.R_reads' HO_13.out).2.2 x15_3 p318 q318
                   obtain rfl : ad316 = ad318 := (by injection e318)
                   replace p318 := eq_true p318
                   replace q318 := eq_true q318
                   have p319 : 0 ≤ (x15_3 : Int) := of_decide_eq_true z3q7
                   have q319 : x15_3 < (t267.length : Int) := of_decide_eq_true z3q7
                   obtain ⟨ad319, e319, hx319_0, hx319_1, hx319_2, hx319_3⟩ := at_T31 (Kd.R_reads' HO_4.out).2.2 x15_3 p319 q319
                   obtain rfl : ad317 = ad319 := (by injection e319)
                   replace p319 := eq_true p319
                   replace q319 := eq_true q319
                   have p320 : 0 ≤ (x15_3 : Int) := of_decide_eq_true z3q7
                   have q320 : x15_3 < (t310.length : Int) := of_decide_eq_true z3q7
                   obtain ⟨ad320, e320, hx320_0, hx320_1, hx320_2, hx320_3⟩ := at_T31 (Kd.R_reads' HO_13.out).2.2 x15_3 p320 q320
                   obtain rfl : ad316 = ad320 := (by injection e320)
                   replace p320 := eq_true p320
                   replace q320 := eq_true q320
                   have p321 : 0 ≤ (x15_3 : Int) := of_decide_eq_true z3q7
                   have q321 : x15_3 < (t267.length : Int) := of_decide_eq_true z3q7
                   obtain ⟨ad321, e321, hx321_0, hx321_1, hx321_2, hx321_3⟩ := at_T31 (Kd.R_reads' HO_4.out).2.2 x15_3 p321 q321
                   obtain rfl : ad317 = ad321 := (by injection e321)
                   replace p321 := eq_true p321
                   replace q321 := eq_true q321
                   go_wp2
                   repeat (go_quiet (fail); try go_wp2)
                   go_ret
                   exact ⟨by first | rfl | (simp [errW_none, errW_some] <;> rfl) | (simp [*, errW_none, errW_some] <;> rfl), by repeat (first | (with_reducible first | exact HB.out | apply below_alloc | apply pw_below_drewN | apply below_drew1 | refine below_set ?_ GE272.out | refine below_set ?_ GE278.out | refine below_set ?_ GE315.out) | exact HB.out)⟩
                 next => as_aux_lemma =>
                  rw [if_neg c150] at H
                  have c150b0 : (((rd_T31 t310 x15_3).f1).toList == ((rd_T31 t267 x15_3).f1).toList) = false := beq_eq_false_iff_ne.mpr c150
                  have c150b1 : (((rd_T31 t310 x15_3).f1).toList != ((rd_T31 t267 x15_3).f1).toList) = true := bne_iff_ne.mpr c150
                  obtain rfl := Option.some.inj H
                  have p316 : 0 ≤ (x15_3 : Int) := of_decide_eq_true z3q7
                  have q316 : x15_3 < (t310.length : Int) := of_decide_eq_true z3q7
                  obtain ⟨ad316, e316, hx316_0, hx316_1, hx316_2, hx316_3⟩ := at_T31 (Kd.R_reads' HO_13.out).2.2 x15_3 p316 q316
                  cases e316
                  replace p316 := eq_true p316
                  replace q316 := eq_true q316
                  have p317 : 0 ≤ (x15_3 : Int) := of_decide_eq_true z3q7
                  have q317 : x15_3 < (t267.length : Int) := of_decide_eq_true z3q7
                  obtain ⟨ad317, e317, hx317_0, hx317_1, hx317_2, hx317_3⟩ := at_T31 (Kd.R_reads' HO_4.out).2.2 x15_3 p317 q317
                  cases e317
                  replace p317 := eq_true p317
                  replace q317 := eq_true q317
                  have p318 : 0 ≤ (x15_3 : Int) := of_decide_eq_true z3q7
                  have q318 : x15_3 < (t310.length : Int) := of_decide_eq_true z3q7
                  obtain ⟨ad318, e318, hx318_0, hx318_1, hx318_2, hx318_3⟩ := at_T31 (Kd.R_reads' HO_13.out).2.2 x15_3 p318 q318
                  obtain rfl : ad316 = ad318 := (by injection e318)
                  replace p318 := eq_true p318
                  replace q318 := eq_true q318
                  have p319 : 0 ≤ (x15_3 : Int) := of_decide_eq_true z3q7
                  have q319 : x15_3 < (t267.length : Int) := of_decide_eq_true z3q7
                  obtain ⟨ad319, e319, hx319_0, hx319_1, hx319_2, hx319_3⟩ := at_T31 (Kd.R_reads' HO_4.out).2.2 x15_3 p319 q319
                  obtain rfl : ad317 = ad319 := (by injection e319)
                  replace p319 := eq_true p319
                  replace q319 := eq_true q319
                  go_wp2
                  repeat (go_quiet (fail); try go_wp2)
                  go_ret
                  exact ⟨by first | rfl | (simp [errW_none, errW_some] <;> rfl) | (simp [*, errW_none, errW_some] <;> rfl), by repeat (first | (with_reducible first | exact HB.out | apply below_alloc | apply pw_below_drewN | apply below_drew1 | refine below_set ?_ GE272.out | refine below_set ?_ GE278.out | refine below_set ?_ GE315.out) | exact HB.out)⟩
                next => as_aux_lemma =>
                 rw [if_neg c149] at H
                 have c149b0 : (((rd_T31 t310 x15_3).f0) == ((rd_T31 t267 x15_3).f0)) = false := beq_eq_false_iff_ne.mpr c149
                 have c149b1 : (((rd_T31 t310 x15_3).f0) != ((rd_T31 t267 x15_3).f0)) = true := bne_iff_ne.mpr c149
                 obtain rfl := Option.some.inj H
                 have p316 : 0 ≤ (x15_3 : Int) := of_decide_eq_true z3q7
                 have q316 : x15_3 < (t310.length : Int) := of_decide_eq_true z3q7
                 obtain ⟨ad316, e316, hx316_0, hx316_1, hx316_2, hx316_3⟩ := at_T31 (Kd.R_reads' HO_13.out).2.2 x15_3 p316 q316
                 cases e316
                 replace p316 := eq_true p316
                 replace q316 := eq_true q316
                 have p317 : 0 ≤ (x15_3 : Int) := of_decide_eq_true z3q7
                 have q317 : x15_3 < (t267.length : Int) := of_decide_eq_true z3q7
                 obtain ⟨ad317, e317, hx317_0, hx317_1, hx317_2, hx317_3⟩ := at_T31 (Kd.R_reads' HO_4.out).2.2 x15_3 p317 q317
                 cases e317
                 replace p317 := eq_true p317
                 replace q317 := eq_true q317
                 go_wp2
                 repeat (go_quiet (fail); try go_wp2)
                 go_ret
                 exact ⟨by first | rfl | (simp [errW_none, errW_some] <;> rfl) | (simp [*, errW_none, errW_some] <;> rfl), by repeat (first | (with_reducible first | exact HB.out | apply below_alloc | apply pw_below_drewN | apply below_drew1 | refine below_set ?_ GE272.out | refine below_set ?_ GE278.out | refine below_set ?_ GE315.out) | exact HB.out)⟩
               next => as_aux_lemma =>
                rw [if_neg c148] at H
                exact absurd H (by simp)
              next => as_aux_lemma =>
               rw [if_neg c147] at H
               exact absurd H (by simp)
             next => as_aux_lemma =>
              rw [if_neg c146] at H
              have c146b0 : decide (x15_3 < (t267.length : Int)) = false := decide_eq_false c146
              clear c146
              obtain rfl := Option.some.inj H
              go_wp2
              repeat (go_quiet (fail); try go_wp2)
              go_ret
              exact ⟨by first | rfl | (simp [errW_none, errW_some] <;> rfl) | (simp [*, errW_none, errW_some] <;> rfl), by repeat (first | (with_reducible first | exact HB.out | apply below_alloc | apply pw_below_drewN | apply below_drew1 | refine below_set ?_ GE272.out | refine below_set ?_ GE278.out | refine below_set ?_ GE315.out) | exact HB.out)⟩
          next => as_aux_lemma =>
           rw [if_neg c137] at H
           have c137b0 : ((t310.length : Int) == (t267.length : Int)) = false := beq_eq_false_iff_ne.mpr c137
           have c137b1 : ((t310.length : Int) != (t267.length : Int)) = true := bne_iff_ne.mpr c137
           have c137b2 : (t310.length == t267.length) = false := by first | simpa using c137 | (simp at c137 ⊢; omega)
           obtain rfl := Option.some.inj H
           obtain ⟨Ao152, co152, eo152⟩ := Kd.R_slice HO_4.out
           subst eo152
           have hcv153 := own_string (P := Try.prog) Try.underlying22 Try.underlying5 Try.underlying9 (Kd.own_of_R HO_8.out)
           go_wp2_with (first | (go_at_call 11; (with_reducible refine (impl_Lex.calls k2 (strOfNums x8_2) t310 t313 t314 _ A135.out).mono ?_); rintro e w154 ⟨v311, rfl, ho0, hb⟩; have n0_ := Aside0.mk (Kd.R_elder' z3q5 (Kd.R_base ho0) hb); have n1_ := Aside0.mk (Kd.R_below z3q6 hb); have n2_ := Aside0.mk (Kd.R_lower (Kd.R_new' ho0 (Kd.R_lt z3q5)) (below_size z3q1)); have n3_ := Aside0.mk (blk_below (g := gb272) (o := .cells #[.int .i64 t270, .int .i64 t271] 27 (0, 0)) z3q3 hb); have n4_ := Aside0.mk (blk_below (g := gb278) (o := .cells #[.int .i64 t276, .int .i64 t277] 27 (0, 0)) z3q4 hb); have n5_ := Aside0.mk (below_step z3q1 hb); clear HO_4; clear HO_8; clear BK272; clear BK278; clear HB; have HO_4 := n0_; have HO_8 := n1_; have HO312 := n2_; have BK272 := n3_; have BK278 := n4_; have HB := n5_; clear n0_ n1_ n2_ n3_ n4_ n5_; (try clear hb); (try clear hb2); (try clear hk); (try clear hi); (try clear ho0)) | ((with_reducible refine gate_dst (N := 14) rfl ?_); (try (refine gate_guard (by rfl) ?_; dsimp only)); refine box_event ?hg (N := 14) ?hd (cs := #[.int .i64 0, .int .i64 0]) (t := 27) ?hr ?_; (case hd => rfl); (case hg => rfl); (case hr => first | (go_simp; done) | (go_simp; rfl)); intro gb315 hg w155 hbox hb; have n0_ := Aside0.mk (Kd.R_below z3q5 hb); have n1_ := Aside0.mk (Kd.R_below z3q6 hb); have n2_ := Aside0.mk (Kd.R_below z3q17 hb); have n3_ := Aside0.mk (blk_below (g := gb272) (o := .cells #[.int .i64 t270, .int .i64 t271] 27 (0, 0)) z3q3 hb); have n4_ := Aside0.mk (blk_below (g := gb278) (o := .cells #[.int .i64 t276, .int .i64 t277] 27 (0, 0)) z3q4 hb); have n5_ := Aside0.mk (below_step z3q1 hb); have n6_ := Aside0.mk (hbox); have n7_ := Aside0.mk ((z3q18 : w.heap.size ≤ gb315)); have n8_ := Aside0.mk ((z3q18 : w.heap.size ≤ gb315)); have n9_ := Aside0.mk ((z3q12 : gb272 ≠ gb315)); have n10_ := Aside0.mk ((z3q13 : gb315 ≠ gb272)); have n11_ := Aside0.mk ((z3q14 : gb278 ≠ gb315)); have n12_ := Aside0.mk ((z3q15 : gb315 ≠ gb278)); clear HO_4; clear HO_8; clear HO312; clear BK272; clear BK278; clear HB; have HO_4 := n0_; have HO_8 := n1_; have HO312 := n2_; have BK272 := n3_; have BK278 := n4_; have HB := n5_; have BK315 := n6_; have GW315 := n7_; have GE315 := n8_; have NB272_315 := n9_; have NB315_272 := n10_; have NB278_315 := n11_; have NB315_278 := n12_; clear n0_ n1_ n2_ n3_ n4_ n5_ n6_ n7_ n8_ n9_ n10_ n11_ n12_; clear hb hbox hg; have hnb156 := NB315_272.out; have hnc156 := NB272_315.out; have hnb157 := NB315_278.out; have hnc157 := NB278_315.out; have hcz158_0 : w155.cell? ⟨gb315, 0, none⟩ = some (.int .i64 0) := (blk_cell BK315.out 0).trans rfl; have hcz158_1 : w155.cell? ⟨gb315, 1, none⟩ = some (.int .i64 0) := (blk_cell BK315.out 1).trans rfl; have hfz158_0 := blk_frozen BK315.out 0; have hfz158_1 := blk_frozen BK315.out 1; obtain ⟨Ao159, co159, eo159⟩ := Kd.R_slice HO312.out; subst eo159))
           repeat (go_quiet (first | (go_at_call 11; (with_reducible refine (impl_Lex.calls k2 (strOfNums x8_2) t310 t313 t314 _ A135.out).mono ?_); rintro e w154 ⟨v311, rfl, ho0, hb⟩; have n0_ := Aside0.mk (Kd.R_elder' z3q5 (Kd.R_base ho0) hb); have n1_ := Aside0.mk (Kd.R_below z3q6 hb); have n2_ := Aside0.mk (Kd.R_lower (Kd.R_new' ho0 (Kd.R_lt z3q5)) (below_size z3q1)); have n3_ := Aside0.mk (blk_below (g := gb272) (o := .cells #[.int .i64 t270, .int .i64 t271] 27 (0, 0)) z3q3 hb); have n4_ := Aside0.mk (blk_below (g := gb278) (o := .cells #[.int .i64 t276, .int .i64 t277] 27 (0, 0)) z3q4 hb); have n5_ := Aside0.mk (below_step z3q1 hb); clear HO_4; clear HO_8; clear BK272; clear BK278; clear HB; have HO_4 := n0_; have HO_8 := n1_; have HO312 := n2_; have BK272 := n3_; have BK278 := n4_; have HB := n5_; clear n0_ n1_ n2_ n3_ n4_ n5_; (try clear hb); (try clear hb2); (try clear hk); (try clear hi); (try clear ho0)) | ((with_reducible refine gate_dst (N := 14) rfl ?_); (try (refine gate_guard (by rfl) ?_; dsimp only)); refine box_event ?hg (N := 14) ?hd (cs := #[.int .i64 0, .int .i64 0]) (t := 27) ?hr ?_; (case hd => rfl); (case hg => rfl); (case hr => first | (go_simp; done) | (go_simp; rfl)); intro gb315 hg w155 hbox hb; have n0_ := Aside0.mk (Kd.R_below z3q5 hb); have n1_ := Aside0.mk (Kd.R_below z3q6 hb); have n2_ := Aside0.mk (Kd.R_below z3q17 hb); have n3_ := Aside0.mk (blk_below (g := gb272) (o := .cells #[.int .i64 t270, .int .i64 t271] 27 (0, 0)) z3q3 hb); have n4_ := Aside0.mk (blk_below (g := gb278) (o := .cells #[.int .i64 t276, .int .i64 t277] 27 (0, 0)) z3q4 hb); have n5_ := Aside0.mk (below_step z3q1 hb); have n6_ := Aside0.mk (hbox); have n7_ := Aside0.mk ((z3q18 : w.heap.size ≤ gb315)); have n8_ := Aside0.mk ((z3q18 : w.heap.size ≤ gb315)); have n9_ := Aside0.mk ((z3q12 : gb272 ≠ gb315)); have n10_ := Aside0.mk ((z3q13 : gb315 ≠ gb272)); have n11_ := Aside0.mk ((z3q14 : gb278 ≠ gb315)); have n12_ := Aside0.mk ((z3q15 : gb315 ≠ gb278)); clear HO_4; clear HO_8; clear HO312; clear BK272; clear BK278; clear HB; have HO_4 := n0_; have HO_8 := n1_; have HO312 := n2_; have BK272 := n3_; have BK278 := n4_; have HB := n5_; have BK315 := n6_; have GW315 := n7_; have GE315 := n8_; have NB272_315 := n9_; have NB315_272 := n10_; have NB278_315 := n11_; have NB315_278 := n12_; clear n0_ n1_ n2_ n3_ n4_ n5_ n6_ n7_ n8_ n9_ n10_ n11_ n12_; clear hb hbox hg; have hnb156 := NB315_272.out; have hnc156 := NB272_315.out; have hnb157 := NB315_278.out; have hnc157 := NB278_315.out; have hcz158_0 : w155.cell? ⟨gb315, 0, none⟩ = some (.int .i64 0) := (blk_cell BK315.out 0).trans rfl; have hcz158_1 : w155.cell? ⟨gb315, 1, none⟩ = some (.int .i64 0) := (blk_cell BK315.out 1).trans rfl; have hfz158_0 := blk_frozen BK315.out 0; have hfz158_1 := blk_frozen BK315.out 1; obtain ⟨Ao159, co159, eo159⟩ := Kd.R_slice HO312.out; subst eo159)); try go_wp2_with (first | (go_at_call 11; (with_reducible refine (impl_Lex.calls k2 (strOfNums x8_2) t310 t313 t314 _ A135.out).mono ?_); rintro e w154 ⟨v311, rfl, ho0, hb⟩; have n0_ := Aside0.mk (Kd.R_elder' z3q5 (Kd.R_base ho0) hb); have n1_ := Aside0.mk (Kd.R_below z3q6 hb); have n2_ := Aside0.mk (Kd.R_lower (Kd.R_new' ho0 (Kd.R_lt z3q5)) (below_size z3q1)); have n3_ := Aside0.mk (blk_below (g := gb272) (o := .cells #[.int .i64 t270, .int .i64 t271] 27 (0, 0)) z3q3 hb); have n4_ := Aside0.mk (blk_below (g := gb278) (o := .cells #[.int .i64 t276, .int .i64 t277] 27 (0, 0)) z3q4 hb); have n5_ := Aside0.mk (below_step z3q1 hb); clear HO_4; clear HO_8; clear BK272; clear BK278; clear HB; have HO_4 := n0_; have HO_8 := n1_; have HO312 := n2_; have BK272 := n3_; have BK278 := n4_; have HB := n5_; clear n0_ n1_ n2_ n3_ n4_ n5_; (try clear hb); (try clear hb2); (try clear hk); (try clear hi); (try clear ho0)) | ((with_reducible refine gate_dst (N := 14) rfl ?_); (try (refine gate_guard (by rfl) ?_; dsimp only)); refine box_event ?hg (N := 14) ?hd (cs := #[.int .i64 0, .int .i64 0]) (t := 27) ?hr ?_; (case hd => rfl); (case hg => rfl); (case hr => first | (go_simp; done) | (go_simp; rfl)); intro gb315 hg w155 hbox hb; have n0_ := Aside0.mk (Kd.R_below z3q5 hb); have n1_ := Aside0.mk (Kd.R_below z3q6 hb); have n2_ := Aside0.mk (Kd.R_below z3q17 hb); have n3_ := Aside0.mk (blk_below (g := gb272) (o := .cells #[.int .i64 t270, .int .i64 t271] 27 (0, 0)) z3q3 hb); have n4_ := Aside0.mk (blk_below (g := gb278) (o := .cells #[.int .i64 t276, .int .i64 t277] 27 (0, 0)) z3q4 hb); have n5_ := Aside0.mk (below_step z3q1 hb); have n6_ := Aside0.mk (hbox); have n7_ := Aside0.mk ((z3q18 : w.heap.size ≤ gb315)); have n8_ := Aside0.mk ((z3q18 : w.heap.size ≤ gb315)); have n9_ := Aside0.mk ((z3q12 : gb272 ≠ gb315)); have n10_ := Aside0.mk ((z3q13 : gb315 ≠ gb272)); have n11_ := Aside0.mk ((z3q14 : gb278 ≠ gb315)); have n12_ := Aside0.mk ((z3q15 : gb315 ≠ gb278)); clear HO_4; clear HO_8; clear HO312; clear BK272; clear BK278; clear HB; have HO_4 := n0_; have HO_8 := n1_; have HO312 := n2_; have BK272 := n3_; have BK278 := n4_; have HB := n5_; have BK315 := n6_; have GW315 := n7_; have GE315 := n8_; have NB272_315 := n9_; have NB315_272 := n10_; have NB278_315 := n11_; have NB315_278 := n12_; clear n0_ n1_ n2_ n3_ n4_ n5_ n6_ n7_ n8_ n9_ n10_ n11_ n12_; clear hb hbox hg; have hnb156 := NB315_272.out; have hnc156 := NB272_315.out; have hnb157 := NB315_278.out; have hnc157 := NB278_315.out; have hcz158_0 : w155.cell? ⟨gb315, 0, none⟩ = some (.int .i64 0) := (blk_cell BK315.out 0).trans rfl; have hcz158_1 : w155.cell? ⟨gb315, 1, none⟩ = some (.int .i64 0) := (blk_cell BK315.out 1).trans rfl; have hfz158_0 := blk_frozen BK315.out 0; have hfz158_1 := blk_frozen BK315.out 1; obtain ⟨Ao159, co159, eo159⟩ := Kd.R_slice HO312.out; subst eo159)))
           go_ret
           exact ⟨by first | rfl | (simp [errW_none, errW_some] <;> rfl) | (simp [*, errW_none, errW_some] <;> rfl), by repeat (first | (with_reducible first | exact HB.out | apply below_alloc | apply pw_below_drewN | apply below_drew1 | refine below_set ?_ GE272.out | refine below_set ?_ GE278.out | refine below_set ?_ GE315.out) | exact HB.out)⟩
         next => as_aux_lemma =>
          rw [if_neg c136] at H
          have c136b0 : (t313 == 0) = false := beq_eq_false_iff_ne.mpr c136
          have c136b1 : (t313 != 0) = true := bne_iff_ne.mpr c136
          obtain rfl := Option.some.inj H
          obtain ⟨Ao160, co160, eo160⟩ := Kd.R_slice HO_4.out
          subst eo160
          have hcv161 := own_string (P := Try.prog) Try.underlying22 Try.underlying5 Try.underlying9 (Kd.own_of_R HO_8.out)
          go_wp2_with (first | (go_at_call 11; (with_reducible refine (impl_Lex.calls k2 (strOfNums x8_2) t310 t313 t314 _ A135.out).mono ?_); rintro e w162 ⟨v311, rfl, ho0, hb⟩; have n0_ := Aside0.mk (Kd.R_elder' z3q5 (Kd.R_base ho0) hb); have n1_ := Aside0.mk (Kd.R_below z3q6 hb); have n2_ := Aside0.mk (Kd.R_lower (Kd.R_new' ho0 (Kd.R_lt z3q5)) (below_size z3q1)); have n3_ := Aside0.mk (blk_below (g := gb272) (o := .cells #[.int .i64 t270, .int .i64 t271] 27 (0, 0)) z3q3 hb); have n4_ := Aside0.mk (blk_below (g := gb278) (o := .cells #[.int .i64 t276, .int .i64 t277] 27 (0, 0)) z3q4 hb); have n5_ := Aside0.mk (below_step z3q1 hb); clear HO_4; clear HO_8; clear BK272; clear BK278; clear HB; have HO_4 := n0_; have HO_8 := n1_; have HO312 := n2_; have BK272 := n3_; have BK278 := n4_; have HB := n5_; clear n0_ n1_ n2_ n3_ n4_ n5_; (try clear hb); (try clear hb2); (try clear hk); (try clear hi); (try clear ho0)) | ((with_reducible refine gate_dst (N := 14) rfl ?_); (try (refine gate_guard (by rfl) ?_; dsimp only)); refine box_event ?hg (N := 14) ?hd (cs := #[.int .i64 0, .int .i64 0]) (t := 27) ?hr ?_; (case hd => rfl); (case hg => rfl); (case hr => first | (go_simp; done) | (go_simp; rfl)); intro gb315 hg w163 hbox hb; have n0_ := Aside0.mk (Kd.R_below z3q5 hb); have n1_ := Aside0.mk (Kd.R_below z3q6 hb); have n2_ := Aside0.mk (Kd.R_below z3q17 hb); have n3_ := Aside0.mk (blk_below (g := gb272) (o := .cells #[.int .i64 t270, .int .i64 t271] 27 (0, 0)) z3q3 hb); have n4_ := Aside0.mk (blk_below (g := gb278) (o := .cells #[.int .i64 t276, .int .i64 t277] 27 (0, 0)) z3q4 hb); have n5_ := Aside0.mk (below_step z3q1 hb); have n6_ := Aside0.mk (hbox); have n7_ := Aside0.mk ((z3q18 : w.heap.size ≤ gb315)); have n8_ := Aside0.mk ((z3q18 : w.heap.size ≤ gb315)); have n9_ := Aside0.mk ((z3q12 : gb272 ≠ gb315)); have n10_ := Aside0.mk ((z3q13 : gb315 ≠ gb272)); have n11_ := Aside0.mk ((z3q14 : gb278 ≠ gb315)); have n12_ := Aside0.mk ((z3q15 : gb315 ≠ gb278)); clear HO_4; clear HO_8; clear HO312; clear BK272; clear BK278; clear HB; have HO_4 := n0_; have HO_8 := n1_; have HO312 := n2_; have BK272 := n3_; have BK278 := n4_; have HB := n5_; have BK315 := n6_; have GW315 := n7_; have GE315 := n8_; have NB272_315 := n9_; have NB315_272 := n10_; have NB278_315 := n11_; have NB315_278 := n12_; clear n0_ n1_ n2_ n3_ n4_ n5_ n6_ n7_ n8_ n9_ n10_ n11_ n12_; clear hb hbox hg; have hnb164 := NB315_272.out; have hnc164 := NB272_315.out; have hnb165 := NB315_278.out; have hnc165 := NB278_315.out; have hcz166_0 : w163.cell? ⟨gb315, 0, none⟩ = some (.int .i64 0) := (blk_cell BK315.out 0).trans rfl; have hcz166_1 : w163.cell? ⟨gb315, 1, none⟩ = some (.int .i64 0) := (blk_cell BK315.out 1).trans rfl; have hfz166_0 := blk_frozen BK315.out 0; have hfz166_1 := blk_frozen BK315.out 1))
          repeat (go_quiet (first | (go_at_call 11; (with_reducible refine (impl_Lex.calls k2 (strOfNums x8_2) t310 t313 t314 _ A135.out).mono ?_); rintro e w162 ⟨v311, rfl, ho0, hb⟩; have n0_ := Aside0.mk (Kd.R_elder' z3q5 (Kd.R_base ho0) hb); have n1_ := Aside0.mk (Kd.R_below z3q6 hb); have n2_ := Aside0.mk (Kd.R_lower (Kd.R_new' ho0 (Kd.R_lt z3q5)) (below_size z3q1)); have n3_ := Aside0.mk (blk_below (g := gb272) (o := .cells #[.int .i64 t270, .int .i64 t271] 27 (0, 0)) z3q3 hb); have n4_ := Aside0.mk (blk_below (g := gb278) (o := .cells #[.int .i64 t276, .int .i64 t277] 27 (0, 0)) z3q4 hb); have n5_ := Aside0.mk (below_step z3q1 hb); clear HO_4; clear HO_8; clear BK272; clear BK278; clear HB; have HO_4 := n0_; have HO_8 := n1_; have HO312 := n2_; have BK272 := n3_; have BK278 := n4_; have HB := n5_; clear n0_ n1_ n2_ n3_ n4_ n5_; (try clear hb); (try clear hb2); (try clear hk); (try clear hi); (try clear ho0)) | ((with_reducible refine gate_dst (N := 14) rfl ?_); (try (refine gate_guard (by rfl) ?_; dsimp only)); refine box_event ?hg (N := 14) ?hd (cs := #[.int .i64 0, .int .i64 0]) (t := 27) ?hr ?_; (case hd => rfl); (case hg => rfl); (case hr => first | (go_simp; done) | (go_simp; rfl)); intro gb315 hg w163 hbox hb; have n0_ := Aside0.mk (Kd.R_below z3q5 hb); have n1_ := Aside0.mk (Kd.R_below z3q6 hb); have n2_ := Aside0.mk (Kd.R_below z3q17 hb); have n3_ := Aside0.mk (blk_below (g := gb272) (o := .cells #[.int .i64 t270, .int .i64 t271] 27 (0, 0)) z3q3 hb); have n4_ := Aside0.mk (blk_below (g := gb278) (o := .cells #[.int .i64 t276, .int .i64 t277] 27 (0, 0)) z3q4 hb); have n5_ := Aside0.mk (below_step z3q1 hb); have n6_ := Aside0.mk (hbox); have n7_ := Aside0.mk ((z3q18 : w.heap.size ≤ gb315)); have n8_ := Aside0.mk ((z3q18 : w.heap.size ≤ gb315)); have n9_ := Aside0.mk ((z3q12 : gb272 ≠ gb315)); have n10_ := Aside0.mk ((z3q13 : gb315 ≠ gb272)); have n11_ := Aside0.mk ((z3q14 : gb278 ≠ gb315)); have n12_ := Aside0.mk ((z3q15 : gb315 ≠ gb278)); clear HO_4; clear HO_8; clear HO312; clear BK272; clear BK278; clear HB; have HO_4 := n0_; have HO_8 := n1_; have HO312 := n2_; have BK272 := n3_; have BK278 := n4_; have HB := n5_; have BK315 := n6_; have GW315 := n7_; have GE315 := n8_; have NB272_315 := n9_; have NB315_272 := n10_; have NB278_315 := n11_; have NB315_278 := n12_; clear n0_ n1_ n2_ n3_ n4_ n5_ n6_ n7_ n8_ n9_ n10_ n11_ n12_; clear hb hbox hg; have hnb164 := NB315_272.out; have hnc164 := NB272_315.out; have hnb165 := NB315_278.out; have hnc165 := NB278_315.out; have hcz166_0 : w163.cell? ⟨gb315, 0, none⟩ = some (.int .i64 0) := (blk_cell BK315.out 0).trans rfl; have hcz166_1 : w163.cell? ⟨gb315, 1, none⟩ = some (.int .i64 0) := (blk_cell BK315.out 1).trans rfl; have hfz166_0 := blk_frozen BK315.out 0; have hfz166_1 := blk_frozen BK315.out 1)); try go_wp2_with (first | (go_at_call 11; (with_reducible refine (impl_Lex.calls k2 (strOfNums x8_2) t310 t313 t314 _ A135.out).mono ?_); rintro e w162 ⟨v311, rfl, ho0, hb⟩; have n0_ := Aside0.mk (Kd.R_elder' z3q5 (Kd.R_base ho0) hb); have n1_ := Aside0.mk (Kd.R_below z3q6 hb); have n2_ := Aside0.mk (Kd.R_lower (Kd.R_new' ho0 (Kd.R_lt z3q5)) (below_size z3q1)); have n3_ := Aside0.mk (blk_below (g := gb272) (o := .cells #[.int .i64 t270, .int .i64 t271] 27 (0, 0)) z3q3 hb); have n4_ := Aside0.mk (blk_below (g := gb278) (o := .cells #[.int .i64 t276, .int .i64 t277] 27 (0, 0)) z3q4 hb); have n5_ := Aside0.mk (below_step z3q1 hb); clear HO_4; clear HO_8; clear BK272; clear BK278; clear HB; have HO_4 := n0_; have HO_8 := n1_; have HO312 := n2_; have BK272 := n3_; have BK278 := n4_; have HB := n5_; clear n0_ n1_ n2_ n3_ n4_ n5_; (try clear hb); (try clear hb2); (try clear hk); (try clear hi); (try clear ho0)) | ((with_reducible refine gate_dst (N := 14) rfl ?_); (try (refine gate_guard (by rfl) ?_; dsimp only)); refine box_event ?hg (N := 14) ?hd (cs := #[.int .i64 0, .int .i64 0]) (t := 27) ?hr ?_; (case hd => rfl); (case hg => rfl); (case hr => first | (go_simp; done) | (go_simp; rfl)); intro gb315 hg w163 hbox hb; have n0_ := Aside0.mk (Kd.R_below z3q5 hb); have n1_ := Aside0.mk (Kd.R_below z3q6 hb); have n2_ := Aside0.mk (Kd.R_below z3q17 hb); have n3_ := Aside0.mk (blk_below (g := gb272) (o := .cells #[.int .i64 t270, .int .i64 t271] 27 (0, 0)) z3q3 hb); have n4_ := Aside0.mk (blk_below (g := gb278) (o := .cells #[.int .i64 t276, .int .i64 t277] 27 (0, 0)) z3q4 hb); have n5_ := Aside0.mk (below_step z3q1 hb); have n6_ := Aside0.mk (hbox); have n7_ := Aside0.mk ((z3q18 : w.heap.size ≤ gb315)); have n8_ := Aside0.mk ((z3q18 : w.heap.size ≤ gb315)); have n9_ := Aside0.mk ((z3q12 : gb272 ≠ gb315)); have n10_ := Aside0.mk ((z3q13 : gb315 ≠ gb272)); have n11_ := Aside0.mk ((z3q14 : gb278 ≠ gb315)); have n12_ := Aside0.mk ((z3q15 : gb315 ≠ gb278)); clear HO_4; clear HO_8; clear HO312; clear BK272; clear BK278; clear HB; have HO_4 := n0_; have HO_8 := n1_; have HO312 := n2_; have BK272 := n3_; have BK278 := n4_; have HB := n5_; have BK315 := n6_; have GW315 := n7_; have GE315 := n8_; have NB272_315 := n9_; have NB315_272 := n10_; have NB278_315 := n11_; have NB315_278 := n12_; clear n0_ n1_ n2_ n3_ n4_ n5_ n6_ n7_ n8_ n9_ n10_ n11_ n12_; clear hb hbox hg; have hnb164 := NB315_272.out; have hnc164 := NB272_315.out; have hnb165 := NB315_278.out; have hnc165 := NB278_315.out; have hcz166_0 : w163.cell? ⟨gb315, 0, none⟩ = some (.int .i64 0) := (blk_cell BK315.out 0).trans rfl; have hcz166_1 : w163.cell? ⟨gb315, 1, none⟩ = some (.int .i64 0) := (blk_cell BK315.out 1).trans rfl; have hfz166_0 := blk_frozen BK315.out 0; have hfz166_1 := blk_frozen BK315.out 1)))
          go_ret
          exact ⟨by first | rfl | (simp [errW_none, errW_some] <;> rfl) | (simp [*, errW_none, errW_some] <;> rfl), by repeat (first | (with_reducible first | exact HB.out | apply below_alloc | apply pw_below_drewN | apply below_drew1 | refine below_set ?_ GE272.out | refine below_set ?_ GE278.out | refine below_set ?_ GE315.out) | exact HB.out)⟩
     next => as_aux_lemma =>
      rw [if_neg c26] at H
      have c26b0 : (t270 == 0) = false := beq_eq_false_iff_ne.mpr c26
      have c26b1 : (t270 != 0) = true := bne_iff_ne.mpr c26
      obtain rfl := Option.some.inj H
      have hnb167 := NB272_278.out
      have hnc167 := NB278_272.out
      have hcz168_0 : wc.cell? ⟨gb272, 0, none⟩ = some (.int .i64 t270) := (blk_cell BK272.out 0).trans rfl
      have hcz168_1 : wc.cell? ⟨gb272, 1, none⟩ = some (.int .i64 t271) := (blk_cell BK272.out 1).trans rfl
      have hfz168_0 := blk_frozen BK272.out 0
      have hfz168_1 := blk_frozen BK272.out 1
      obtain ⟨Ao169, co169, eo169⟩ := Kd.R_slice HO_4.out
      subst eo169
      go_wp2
      repeat (go_quiet (fail); try go_wp2)
      go_ret
      exact ⟨by first | rfl | (simp [errW_none, errW_some] <;> rfl) | (simp [*, errW_none, errW_some] <;> rfl), by repeat (first | (with_reducible first | exact HB.out | apply below_alloc | apply pw_below_drewN | apply below_drew1 | refine below_set ?_ GE272.out | refine below_set ?_ GE278.out) | exact HB.out)⟩

/-- THE ONE PURE STATEMENT of laws_FnWords: yours. -/
def laws_FnWords.Pure : Prop := ∀ (l0 : List Int), l0.length ≤ maxLen → l0.length * 1 ≤ 140737488351232 → (∀ x ∈ l0, (Lit.int .u8 x).wf = true) → ∃ k, laws_FnWords.f k l0 = some true
theorem laws_FnWords.walk (P : laws_FnWords.Pure) (a0 : Option Addr) (len0 cap0 : Nat) (z0 : List Int) (w : World) (w0 : (a0 = none ∧ len0 = 0 ∧ cap0 = 0 ∧ z0 = []) ∨ ∃ x, a0 = some x ∧ len0 ≤ cap0 ∧ cap0 ≤ maxLen ∧ z0.length = cap0 ∧ (∀ i, i < z0.length → w.cell? (x.add i) = some (.int .u8 (z0.getD i 0))) ∧ ∀ n ∈ z0, (Lit.int .u8 n).wf = true) (y0 : len0 * 1 ≤ 140737488351232) :
 Calls Try.prog 3 #[.slice a0 len0 cap0] w fun e w' => e = .returned (.bool true) ∧ Below w.heap.size w w' := by
 obtain ⟨l0, rfl, hr0, hm0, hw0, hc0⟩ := ReadsInt.ofRowC w0
 obtain ⟨k, h⟩ := P l0 hm0 y0 hw0
 refine (laws_FnWords.calls k _ _ l0 true w (Kd.C_of_reads (d := (0 : Int)) (h1 := fun _ => rfl) hr0) hc0 h).mono ?_
 rintro e w' ⟨rfl, hd⟩
 exact ⟨rfl, hd⟩

end Go.Proofs.Ytnchbgiojdijbaa.PFnWords
