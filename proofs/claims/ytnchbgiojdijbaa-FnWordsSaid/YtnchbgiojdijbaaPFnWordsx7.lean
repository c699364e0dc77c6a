/- The functions that FnWords reaches as Lean functions, each with its contract: laid by a program of this session (wip/print2.py) over the kit's print. -/
import Derived.Test.YtnchbgiojdijbaaPFnWordsx0
import Derived.Test.YtnchbgiojdijbaaPFnWordsx6
namespace Go.Proofs.Ytnchbgiojdijbaa.PFnWords
open Go.RowKit Go.Proofs.YtnchbgiojdijbaaW.PrintWords Go.Proofs.YtnchbgiojdijbaaW.PrintLast Go.Proofs.YtnchbgiojdijbaaW.PrintMore
attribute [local go_sem] max2_int min2_int max_two min_two max_three min_three max_four min_four   -- for this text's walks alone
set_option linter.unusedVariables false
set_option linter.unusedSimpArgs false

/-! ### spec_l3Token: function 40 -/
mutual
def spec_l3Token.l0 : Nat → ByteArray → Int → Int → Option (Int × ByteArray × Int × Int × Int × Int)
  | 0, _, _, _ => none
  | k + 1, x0, x1, x8 => if x8 < (x0.size : Int) then (if 0 ≤ x8 then ((spec_l3Letter.f (wrap64 (bt x0 x8))).bind fun t229 => (if t229 = true then (spec_l3Token.l0 k x0 x1 (wrap64 (x8 + 1))) else ((spec_l3Digit.f (wrap64 (bt x0 x8))).bind fun t230 => (if t230 = true then (spec_l3Token.l0 k x0 x1 (wrap64 (x8 + 1))) else (if (wrap64 (x8 - x1)) > 20 then (some (0, (⟨#[]⟩ : ByteArray), 0, 0, x1, 12)) else (if 0 ≤ x1 then (if x1 ≤ x8 then (if x8 ≤ (x0.size : Int) then (some (1, x0.extract (x1 : Int).toNat (x8 : Int).toNat, 0, x1, x8, 0)) else (none)) else (none)) else (none))))))) else (none)) else (if (wrap64 (x8 - x1)) > 20 then (some (0, (⟨#[]⟩ : ByteArray), 0, 0, x1, 12)) else (if 0 ≤ x1 then (if x1 ≤ x8 then (if x8 ≤ (x0.size : Int) then (some (1, x0.extract (x1 : Int).toNat (x8 : Int).toNat, 0, x1, x8, 0)) else (none)) else (none)) else (none)))
def spec_l3Token.l1 : Nat → ByteArray → Int → Int → Int → Int → Option (Int × ByteArray × Int × Int × Int × Int)
  | 0, _, _, _, _, _ => none
  | k + 1, x0, x1, x7, x8, x9 => if x8 < (x0.size : Int) then (if 0 ≤ x8 then ((spec_l3Digit.f (wrap64 (bt x0 x8))).bind fun t232 => (spec_l3Token.j2 k x0 x1 x7 x8 x9 t232)) else (none)) else (spec_l3Token.j2 k x0 x1 x7 x8 x9 false)
def spec_l3Token.j2 : Nat → ByteArray → Int → Int → Int → Int → Bool → Option (Int × ByteArray × Int × Int × Int × Int)
  | 0, _, _, _, _, _, _ => none
  | k + 1, x0, x1, x7, x8, x9, x64 => if x64 = true then (if x9 ≤ 2147483647 then (if 0 ≤ x8 then (if x8 < (x0.size : Int) then (spec_l3Token.l1 k x0 x1 x7 (wrap64 (x8 + 1)) (wrap64 ((wrap64 (x9 * 10)) + (((bt x0 x8) - 48) % 256)))) else (none)) else (none)) else (spec_l3Token.l1 k x0 x1 x7 (wrap64 (x8 + 1)) x9)) else (if x9 > 2147483647 then (some (0, (⟨#[]⟩ : ByteArray), 0, 0, x1, 13)) else (if x7 = 48 then (if x8 > (wrap64 (x1 + 1)) then (some (0, (⟨#[]⟩ : ByteArray), 0, 0, x1, 13)) else (some (2, (⟨#[]⟩ : ByteArray), x9, x1, x8, 0))) else (some (2, (⟨#[]⟩ : ByteArray), x9, x1, x8, 0))))
end
def spec_l3Token.f (k : Nat) (a0 : ByteArray) (a1 : Int) : Option (Int × ByteArray × Int × Int × Int × Int) := if 0 ≤ a1 then (if a1 < (a0.size : Int) then ((spec_l3Letter.f (wrap64 (bt a0 a1))).bind fun t228 => (if t228 = true then (spec_l3Token.l0 k a0 a1 a1) else ((spec_l3Digit.f (wrap64 (bt a0 a1))).bind fun t231 => (if t231 = true then (spec_l3Token.l1 k a0 a1 (wrap64 (bt a0 a1)) a1 0) else (if (wrap64 (bt a0 a1)) = 123 then (if a1 ≤ (wrap64 (a1 + 1)) then (if (wrap64 (a1 + 1)) ≤ (a0.size : Int) then (some (3, a0.extract (a1 : Int).toNat ((wrap64 (a1 + 1)) : Int).toNat, 0, a1, wrap64 (a1 + 1), 0)) else (none)) else (none)) else (if (wrap64 (bt a0 a1)) = 125 then (if a1 ≤ (wrap64 (a1 + 1)) then (if (wrap64 (a1 + 1)) ≤ (a0.size : Int) then (some (3, a0.extract (a1 : Int).toNat ((wrap64 (a1 + 1)) : Int).toNat, 0, a1, wrap64 (a1 + 1), 0)) else (none)) else (none)) else (if (wrap64 (bt a0 a1)) = 61 then (if a1 ≤ (wrap64 (a1 + 1)) then (if (wrap64 (a1 + 1)) ≤ (a0.size : Int) then (some (3, a0.extract (a1 : Int).toNat ((wrap64 (a1 + 1)) : Int).toNat, 0, a1, wrap64 (a1 + 1), 0)) else (none)) else (none)) else (if (wrap64 (bt a0 a1)) = 59 then (if a1 ≤ (wrap64 (a1 + 1)) then (if (wrap64 (a1 + 1)) ≤ (a0.size : Int) then (some (3, a0.extract (a1 : Int).toNat ((wrap64 (a1 + 1)) : Int).toNat, 0, a1, wrap64 (a1 + 1), 0)) else (none)) else (none)) else (if (wrap64 (bt a0 a1)) = 44 then (if a1 ≤ (wrap64 (a1 + 1)) then (if (wrap64 (a1 + 1)) ≤ (a0.size : Int) then (some (3, a0.extract (a1 : Int).toNat ((wrap64 (a1 + 1)) : Int).toNat, 0, a1, wrap64 (a1 + 1), 0)) else (none)) else (none)) else (if (wrap64 (bt a0 a1)) = 46 then (if a1 ≤ (wrap64 (a1 + 1)) then (if (wrap64 (a1 + 1)) ≤ (a0.size : Int) then (some (3, a0.extract (a1 : Int).toNat ((wrap64 (a1 + 1)) : Int).toNat, 0, a1, wrap64 (a1 + 1), 0)) else (none)) else (none)) else (if (wrap64 (bt a0 a1)) = 45 then (if a1 ≤ (wrap64 (a1 + 1)) then (if (wrap64 (a1 + 1)) ≤ (a0.size : Int) then (some (3, a0.extract (a1 : Int).toNat ((wrap64 (a1 + 1)) : Int).toNat, 0, a1, wrap64 (a1 + 1), 0)) else (none)) else (none)) else (some (0, (⟨#[]⟩ : ByteArray), 0, 0, a1, 11))))))))))))) else (none)) else (none)
theorem spec_l3Token.mono_l : ∀ k, (∀ y0 y1 y2, LeO (spec_l3Token.l0 k y0 y1 y2) (spec_l3Token.l0 (k + 1) y0 y1 y2)) ∧ (∀ y0 y1 y2 y3 y4, LeO (spec_l3Token.l1 k y0 y1 y2 y3 y4) (spec_l3Token.l1 (k + 1) y0 y1 y2 y3 y4)) ∧ (∀ y0 y1 y2 y3 y4 y5, LeO (spec_l3Token.j2 k y0 y1 y2 y3 y4 y5) (spec_l3Token.j2 (k + 1) y0 y1 y2 y3 y4 y5))
  | 0 => ⟨fun _ _ _ r h => by simp [spec_l3Token.l0] at h, fun _ _ _ _ _ r h => by simp [spec_l3Token.l1] at h, fun _ _ _ _ _ _ r h => by simp [spec_l3Token.j2] at h⟩
  | k + 1 => by
    obtain ⟨ih0, ih1, ih2⟩ := spec_l3Token.mono_l k
    refine ⟨?_, ?_, ?_⟩
    · intro y0 y1 y2
      unfold spec_l3Token.l0
      repeat' first
      | (with_reducible exact ih0 _ _ _)
      | (with_reducible exact ih1 _ _ _ _ _)
      | (with_reducible exact ih2 _ _ _ _ _ _)
      | (with_reducible exact LeO.refl _)
      | (with_reducible exact LeO.none _)
      | (with_reducible refine LeO.ite ?_ ?_)
      | (with_reducible refine LeO.bind ?_ (fun _ => ?_))
      | exact ih0 _ _ _
      | exact ih1 _ _ _ _ _
      | exact ih2 _ _ _ _ _ _
      | exact LeO.none _
      | refine LeO.ite ?_ ?_
      | refine LeO.bind ?_ (fun _ => ?_)
    · intro y0 y1 y2 y3 y4
      unfold spec_l3Token.l1
      repeat' first
      | (with_reducible exact ih0 _ _ _)
      | (with_reducible exact ih1 _ _ _ _ _)
      | (with_reducible exact ih2 _ _ _ _ _ _)
      | (with_reducible exact LeO.refl _)
      | (with_reducible exact LeO.none _)
      | (with_reducible refine LeO.ite ?_ ?_)
      | (with_reducible refine LeO.bind ?_ (fun _ => ?_))
      | exact ih0 _ _ _
      | exact ih1 _ _ _ _ _
      | exact ih2 _ _ _ _ _ _
      | exact LeO.none _
      | refine LeO.ite ?_ ?_
      | refine LeO.bind ?_ (fun _ => ?_)
    · intro y0 y1 y2 y3 y4 y5
      unfold spec_l3Token.j2
      repeat' first
      | (with_reducible exact ih0 _ _ _)
      | (with_reducible exact ih1 _ _ _ _ _)
      | (with_reducible exact ih2 _ _ _ _ _ _)
      | (with_reducible exact LeO.refl _)
      | (with_reducible exact LeO.none _)
      | (with_reducible refine LeO.ite ?_ ?_)
      | (with_reducible refine LeO.bind ?_ (fun _ => ?_))
      | exact ih0 _ _ _
      | exact ih1 _ _ _ _ _
      | exact ih2 _ _ _ _ _ _
      | exact LeO.none _
      | refine LeO.ite ?_ ?_
      | refine LeO.bind ?_ (fun _ => ?_)
theorem spec_l3Token.mono : ∀ a0 a1 k, LeO (spec_l3Token.f k a0 a1) (spec_l3Token.f (k + 1) a0 a1) := by
  intro a0 a1 k
  obtain ⟨ih0, ih1, ih2⟩ := spec_l3Token.mono_l k
  unfold spec_l3Token.f
  repeat' first
      | (with_reducible exact ih0 _ _ _)
      | (with_reducible exact ih1 _ _ _ _ _)
      | (with_reducible exact ih2 _ _ _ _ _ _)
      | (with_reducible exact LeO.refl _)
      | (with_reducible exact LeO.none _)
      | (with_reducible refine LeO.ite ?_ ?_)
      | (with_reducible refine LeO.bind ?_ (fun _ => ?_))
      | exact ih0 _ _ _
      | exact ih1 _ _ _ _ _
      | exact ih2 _ _ _ _ _ _
      | exact LeO.none _
      | refine LeO.ite ?_ ?_
      | refine LeO.bind ?_ (fun _ => ?_)
theorem z40q1 {p : Prop} (h : p := by (with_reducible repeat (first | refine blk_drewN ?_ _ | refine blk_drew ?_ | refine blk_alloc ?_ _)); refine blk_put (cs := #[.int .i64 3, .string (a0.extract (a1 : Int).toNat ((wrap64 (a1 + 1)) : Int).toNat), .int .i64 0, .int .i64 0]) ?_ 3 _ rfl; (with_reducible repeat (first | refine blk_drewN ?_ _ | refine blk_drew ?_ | refine blk_alloc ?_ _)); refine blk_put (cs := #[.int .i64 3, .string (a0.extract (a1 : Int).toNat ((wrap64 (a1 + 1)) : Int).toNat), .int .i64 0, .int .i64 0]) ?_ 2 _ rfl; (with_reducible repeat (first | refine blk_drewN ?_ _ | refine blk_drew ?_ | refine blk_alloc ?_ _)); refine blk_put (cs := #[.int .i64 3, .string (⟨#[]⟩ : ByteArray), .int .i64 0, .int .i64 0]) ?_ 1 _ rfl; (with_reducible repeat (first | refine blk_drewN ?_ _ | refine blk_drew ?_ | refine blk_alloc ?_ _)); refine blk_put (cs := #[.int .i64 0, .string (⟨#[]⟩ : ByteArray), .int .i64 0, .int .i64 0]) ?_ 0 _ rfl; (with_reducible repeat (first | refine blk_drewN ?_ _ | refine blk_drew ?_ | refine blk_alloc ?_ _)); exact BK227.out) : p := h
theorem z40q2 {p : Prop} (h : p := by (with_reducible repeat (first | refine blk_drewN ?_ _ | refine blk_drew ?_ | refine blk_alloc ?_ _)); refine blk_put (cs := #[.int .i64 0, .string (⟨#[]⟩ : ByteArray), .int .i64 0, .int .i64 0]) ?_ 3 _ rfl; (with_reducible repeat (first | refine blk_drewN ?_ _ | refine blk_drew ?_ | refine blk_alloc ?_ _)); refine blk_put (cs := #[.int .i64 0, .string (⟨#[]⟩ : ByteArray), .int .i64 0, .int .i64 0]) ?_ 2 _ rfl; (with_reducible repeat (first | refine blk_drewN ?_ _ | refine blk_drew ?_ | refine blk_alloc ?_ _)); refine blk_put (cs := #[.int .i64 0, .string (⟨#[]⟩ : ByteArray), .int .i64 0, .int .i64 0]) ?_ 1 _ rfl; (with_reducible repeat (first | refine blk_drewN ?_ _ | refine blk_drew ?_ | refine blk_alloc ?_ _)); refine blk_put (cs := #[.int .i64 0, .string (⟨#[]⟩ : ByteArray), .int .i64 0, .int .i64 0]) ?_ 0 _ rfl; (with_reducible repeat (first | refine blk_drewN ?_ _ | refine blk_drew ?_ | refine blk_alloc ?_ _)); exact BK227.out) : p := h
theorem z40q3 {p : Prop} (h : p := by repeat (first | (with_reducible first | exact HB.out | apply below_alloc | apply pw_below_drewN | apply below_drew1) | exact HB.out)) : p := h
theorem z40q4 {p : Prop} (h : p := by repeat (first | (with_reducible first | exact HB.out | apply below_alloc | apply pw_below_drewN | apply below_drew1 | refine below_set ?_ GE227.out) | exact HB.out)) : p := h
theorem z40q5 {p : Prop} (h : p := by (try simp only [List.map_toArray, List.map_cons, List.map_nil]); first | done | rfl | (simp only [List.length_drop, List.length_take]; rfl)) : p := h
theorem z40q6 {p : Prop} (h : p := by (with_reducible repeat (first | refine blk_drewN ?_ _ | refine blk_drew ?_ | refine blk_alloc ?_ _)); exact BK227.out) : p := h
theorem z40q7 {p : Prop} (h : p := by first | (with_reducible assumption) | assumption) : p := h
theorem z40q8 {p : Prop} (h : p := by (with_reducible repeat (first | refine blk_drewN ?_ _ | refine blk_drew ?_ | refine blk_alloc ?_ _)); refine blk_put (cs := #[.int .i64 1, .string (a0.extract (a1 : Int).toNat (x8_1 : Int).toNat), .int .i64 0, .int .i64 0]) ?_ 3 _ rfl; (with_reducible repeat (first | refine blk_drewN ?_ _ | refine blk_drew ?_ | refine blk_alloc ?_ _)); refine blk_put (cs := #[.int .i64 1, .string (a0.extract (a1 : Int).toNat (x8_1 : Int).toNat), .int .i64 0, .int .i64 0]) ?_ 2 _ rfl; (with_reducible repeat (first | refine blk_drewN ?_ _ | refine blk_drew ?_ | refine blk_alloc ?_ _)); refine blk_put (cs := #[.int .i64 1, .string (⟨#[]⟩ : ByteArray), .int .i64 0, .int .i64 0]) ?_ 1 _ rfl; (with_reducible repeat (first | refine blk_drewN ?_ _ | refine blk_drew ?_ | refine blk_alloc ?_ _)); refine blk_put (cs := #[.int .i64 0, .string (⟨#[]⟩ : ByteArray), .int .i64 0, .int .i64 0]) ?_ 0 _ rfl; (with_reducible repeat (first | refine blk_drewN ?_ _ | refine blk_drew ?_ | refine blk_alloc ?_ _)); exact BK227.out) : p := h
theorem z40q9 {p : Prop} (h : p := by (with_reducible repeat (first | refine blk_drewN ?_ _ | refine blk_drew ?_ | refine blk_alloc ?_ _)); refine blk_put (cs := #[.int .i64 2, .string (⟨#[]⟩ : ByteArray), .int .i64 x9_1, .int .i64 0]) ?_ 3 _ rfl; (with_reducible repeat (first | refine blk_drewN ?_ _ | refine blk_drew ?_ | refine blk_alloc ?_ _)); refine blk_put (cs := #[.int .i64 2, .string (⟨#[]⟩ : ByteArray), .int .i64 0, .int .i64 0]) ?_ 2 _ rfl; (with_reducible repeat (first | refine blk_drewN ?_ _ | refine blk_drew ?_ | refine blk_alloc ?_ _)); refine blk_put (cs := #[.int .i64 2, .string (⟨#[]⟩ : ByteArray), .int .i64 0, .int .i64 0]) ?_ 1 _ rfl; (with_reducible repeat (first | refine blk_drewN ?_ _ | refine blk_drew ?_ | refine blk_alloc ?_ _)); refine blk_put (cs := #[.int .i64 0, .string (⟨#[]⟩ : ByteArray), .int .i64 0, .int .i64 0]) ?_ 0 _ rfl; (with_reducible repeat (first | refine blk_drewN ?_ _ | refine blk_drew ?_ | refine blk_alloc ?_ _)); exact BK227.out) : p := h
theorem z40q10 {p : Prop} (h : p := by rw [hg]; exact (below_size z40q3)) : p := h
theorem z40q11 {p : Prop} (h : p := by first | rfl | (simp; done) | (simp [*]; done)) : p := h
set_option maxHeartbeats 8000000 in
set_option maxRecDepth 100000 in
theorem spec_l3Token.calls (k : Nat) (a0 : ByteArray) (a1 : Int) (r1 : Int) (r2 : ByteArray) (r3 : Int) (r4 : Int) (r5 : Int) (r6 : Int) (w : World) (h : spec_l3Token.f k a0 a1 = some (r1, r2, r3, r4, r5, r6)) :
    Calls Try.prog 40 #[.string a0, .int .i64 a1] w fun e w' => e = .returned (.tuple #[.agg #[.int .i64 r1, .string r2, .int .i64 r3, .int .i64 r4], .int .i64 r5, .int .i64 r6]) ∧ Below w.heap.size w w' := by
 have hu31 := Try.underlying31
 have HB := Aside0.mk (Below.refl w.heap.size w)
 have H : (if 0 ≤ a1 then (if a1 < (a0.size : Int) then ((spec_l3Letter.f (wrap64 (bt a0 a1))).bind fun t228 => (if t228 = true then (spec_l3Token.l0 k a0 a1 a1) else ((spec_l3Digit.f (wrap64 (bt a0 a1))).bind fun t231 => (if t231 = true then (spec_l3Token.l1 k a0 a1 (wrap64 (bt a0 a1)) a1 0) else (if (wrap64 (bt a0 a1)) = 123 then (if a1 ≤ (wrap64 (a1 + 1)) then (if (wrap64 (a1 + 1)) ≤ (a0.size : Int) then (some (3, a0.extract (a1 : Int).toNat ((wrap64 (a1 + 1)) : Int).toNat, 0, a1, wrap64 (a1 + 1), 0)) else (none)) else (none)) else (if (wrap64 (bt a0 a1)) = 125 then (if a1 ≤ (wrap64 (a1 + 1)) then (if (wrap64 (a1 + 1)) ≤ (a0.size : Int) then (some (3, a0.extract (a1 : Int).toNat ((wrap64 (a1 + 1)) : Int).toNat, 0, a1, wrap64 (a1 + 1), 0)) else (none)) else (none)) else (if (wrap64 (bt a0 a1)) = 61 then (if a1 ≤ (wrap64 (a1 + 1)) then (if (wrap64 (a1 + 1)) ≤ (a0.size : Int) then (some (3, a0.extract (a1 : Int).toNat ((wrap64 (a1 + 1)) : Int).toNat, 0, a1, wrap64 (a1 + 1), 0)) else (none)) else (none)) else (if (wrap64 (bt a0 a1)) = 59 then (if a1 ≤ (wrap64 (a1 + 1)) then (if (wrap64 (a1 + 1)) ≤ (a0.size : Int) then (some (3, a0.extract (a1 : Int).toNat ((wrap64 (a1 + 1)) : Int).toNat, 0, a1, wrap64 (a1 + 1), 0)) else (none)) else (none)) else (if (wrap64 (bt a0 a1)) = 44 then (if a1 ≤ (wrap64 (a1 + 1)) then (if (wrap64 (a1 + 1)) ≤ (a0.size : Int) then (some (3, a0.extract (a1 : Int).toNat ((wrap64 (a1 + 1)) : Int).toNat, 0, a1, wrap64 (a1 + 1), 0)) else (none)) else (none)) else (if (wrap64 (bt a0 a1)) = 46 then (if a1 ≤ (wrap64 (a1 + 1)) then (if (wrap64 (a1 + 1)) ≤ (a0.size : Int) then (some (3, a0.extract (a1 : Int).toNat ((wrap64 (a1 + 1)) : Int).toNat, 0, a1, wrap64 (a1 + 1), 0)) else (none)) else (none)) else (if (wrap64 (bt a0 a1)) = 45 then (if a1 ≤ (wrap64 (a1 + 1)) then (if (wrap64 (a1 + 1)) ≤ (a0.size : Int) then (some (3, a0.extract (a1 : Int).toNat ((wrap64 (a1 + 1)) : Int).toNat, 0, a1, wrap64 (a1 + 1), 0)) else (none)) else (none)) else (some (0, (⟨#[]⟩ : ByteArray), 0, 0, a1, 11))))))))))))) else (none)) else (none)) = some (r1, r2, r3, r4, r5, r6) := h
 clear h
 by_cases c3 : 0 ≤ a1
 next =>
  rw [if_pos c3] at H
  have c3b0 : decide (0 ≤ a1) = true := decide_eq_true c3
  clear c3
  by_cases c4 : a1 < (a0.size : Int)
  next =>
   rw [if_pos c4] at H
   have c4b0 : decide (a1 < (a0.size : Int)) = true := decide_eq_true c4
   clear c4
   replace H := Option.bind_eq_some_iff.mp H
   obtain ⟨t228, A60, H⟩ := H
   replace H : (if t228 = true then (spec_l3Token.l0 k a0 a1 a1) else ((spec_l3Digit.f (wrap64 (bt a0 a1))).bind fun t231 => (if t231 = true then (spec_l3Token.l1 k a0 a1 (wrap64 (bt a0 a1)) a1 0) else (if (wrap64 (bt a0 a1)) = 123 then (if a1 ≤ (wrap64 (a1 + 1)) then (if (wrap64 (a1 + 1)) ≤ (a0.size : Int) then (some (3, a0.extract (a1 : Int).toNat ((wrap64 (a1 + 1)) : Int).toNat, 0, a1, wrap64 (a1 + 1), 0)) else (none)) else (none)) else (if (wrap64 (bt a0 a1)) = 125 then (if a1 ≤ (wrap64 (a1 + 1)) then (if (wrap64 (a1 + 1)) ≤ (a0.size : Int) then (some (3, a0.extract (a1 : Int).toNat ((wrap64 (a1 + 1)) : Int).toNat, 0, a1, wrap64 (a1 + 1), 0)) else (none)) else (none)) else (if (wrap64 (bt a0 a1)) = 61 then (if a1 ≤ (wrap64 (a1 + 1)) then (if (wrap64 (a1 + 1)) ≤ (a0.size : Int) then (some (3, a0.extract (a1 : Int).toNat ((wrap64 (a1 + 1)) : Int).toNat, 0, a1, wrap64 (a1 + 1), 0)) else (none)) else (none)) else (if (wrap64 (bt a0 a1)) = 59 then (if a1 ≤ (wrap64 (a1 + 1)) then (if (wrap64 (a1 + 1)) ≤ (a0.size : Int) then (some (3, a0.extract (a1 : Int).toNat ((wrap64 (a1 + 1)) : Int).toNat, 0, a1, wrap64 (a1 + 1), 0)) else (none)) else (none)) else (if (wrap64 (bt a0 a1)) = 44 then (if a1 ≤ (wrap64 (a1 + 1)) then (if (wrap64 (a1 + 1)) ≤ (a0.size : Int) then (some (3, a0.extract (a1 : Int).toNat ((wrap64 (a1 + 1)) : Int).toNat, 0, a1, wrap64 (a1 + 1), 0)) else (none)) else (none)) else (if (wrap64 (bt a0 a1)) = 46 then (if a1 ≤ (wrap64 (a1 + 1)) then (if (wrap64 (a1 + 1)) ≤ (a0.size : Int) then (some (3, a0.extract (a1 : Int).toNat ((wrap64 (a1 + 1)) : Int).toNat, 0, a1, wrap64 (a1 + 1), 0)) else (none)) else (none)) else (if (wrap64 (bt a0 a1)) = 45 then (if a1 ≤ (wrap64 (a1 + 1)) then (if (wrap64 (a1 + 1)) ≤ (a0.size : Int) then (some (3, a0.extract (a1 : Int).toNat ((wrap64 (a1 + 1)) : Int).toNat, 0, a1, wrap64 (a1 + 1), 0)) else (none)) else (none)) else (some (0, (⟨#[]⟩ : ByteArray), 0, 0, a1, 11)))))))))))) = some (r1, r2, r3, r4, r5, r6) := H
   have A6 := Aside0.mk A60
   clear A60
   by_cases c7 : t228 = true
   next =>
    subst c7
    have H1 : (spec_l3Token.l0 k a0 a1 a1) = some (r1, r2, r3, r4, r5, r6) := by rw [if_pos rfl] at H; exact H
    clear H
    have H := H1
    clear H1
    have H' := Aside0.mk H
    clear H
    go_enter Try.func40, Try.ntmps40
    go_wp2_with (first | ((with_reducible refine gate_dst (N := 4) rfl ?_); refine box_event ?hg (N := 4) ?hd (cs := #[.int .i64 0, .string (⟨#[]⟩ : ByteArray), .int .i64 0, .int .i64 0]) (t := 31) ?hr ?_; (case hd => rfl); (case hg => rfl); (case hr => first | (go_simp; done) | (go_simp; rfl)); intro gb227 hg w8 hbox hb; have n0_ := Aside0.mk (below_step z40q3 hb); have n1_ := Aside0.mk (hbox); have n2_ := Aside0.mk ((z40q10 : w.heap.size ≤ gb227)); have n3_ := Aside0.mk ((z40q10 : w.heap.size ≤ gb227)); clear HB; have HB := n0_; have BK227 := n1_; have GW227 := n2_; have GE227 := n3_; clear n0_ n1_ n2_ n3_; clear hb hbox hg; have p5 : 0 ≤ (a1 : Int) := of_decide_eq_true z40q7; have q5 : a1 < (a0.size : Int) := of_decide_eq_true z40q7; have hx5 := bt_at a0 a1; replace p5 := eq_true p5; replace q5 := eq_true q5) | ((with_reducible refine gate_callee (f := 70) rfl ?_); refine goesL_ (some 17) rfl rfl Try.func70 (by kernel_rfl) rfl #[.int .i64 (wrap64 (bt a0 a1))] rfl z40q5 ?_; (with_reducible refine (spec_l3Letter.calls (wrap64 (bt a0 a1)) true _ A6.out).mono ?_); rintro e w' ⟨rfl, ⟨nd, rfl⟩⟩; refine ⟨_, rfl, ?_⟩))
    go_loopg [8] k (fun kq v8 w' => ∃ (x8_1 : Int), v8 = .int .i64 x8_1 ∧ Aside0 (spec_l3Token.l0 kq a0 a1 x8_1 = some (r1, r2, r3, r4, r5, r6)) ∧ Aside0 (kq ≤ k) ∧ Aside0 (w'.heap[gb227]? = some (.cells #[.int .i64 0, .string (⟨#[]⟩ : ByteArray), .int .i64 0, .int .i64 0] 31 (0, 0))) ∧ Aside0 (Below w.heap.size w w'))
    case atStart => exact ⟨(a1), z40q11, H', ⟨Nat.le_refl _⟩, ⟨by (with_reducible repeat (first | refine blk_drewN ?_ _ | refine blk_drew ?_ | refine blk_alloc ?_ _)); exact BK227.out⟩, ⟨by repeat (first | (with_reducible first | exact HB.out | apply below_alloc | apply pw_below_drewN | apply below_drew1 | refine below_set ?_ GE227.out) | exact HB.out)⟩⟩
    case round =>
     clear H'
     try clear p2
     try clear c3
     try clear c3b0
     try clear c4
     try clear c4b0
     try clear p5
     try clear q5
     try clear hx5
     try clear p6
     try clear c7
     try clear p5
     try clear q5
     obtain ⟨x8_1, rfl, HA, HK1, BK227, HB⟩ := hrel
     cases gk with
     | zero => exact absurd HA.out (by simp [spec_l3Token.l0])
     | succ k1 =>
      have H := HA.out
      clear HA
      simp only [spec_l3Token.l0] at H
      by_cases c9 : x8_1 < (a0.size : Int)
      next =>
       rw [if_pos c9] at H
       have c9b0 : decide (x8_1 < (a0.size : Int)) = true := decide_eq_true c9
       clear c9
       by_cases c10 : 0 ≤ x8_1
       next =>
        rw [if_pos c10] at H
        have c10b0 : decide (0 ≤ x8_1) = true := decide_eq_true c10
        clear c10
        replace H := Option.bind_eq_some_iff.mp H
        obtain ⟨t229, A120, H⟩ := H
        replace H : (if t229 = true then (spec_l3Token.l0 k1 a0 a1 (wrap64 (x8_1 + 1))) else ((spec_l3Digit.f (wrap64 (bt a0 x8_1))).bind fun t230 => (if t230 = true then (spec_l3Token.l0 k1 a0 a1 (wrap64 (x8_1 + 1))) else (if (wrap64 (x8_1 - a1)) > 20 then (some (0, (⟨#[]⟩ : ByteArray), 0, 0, a1, 12)) else (if 0 ≤ a1 then (if a1 ≤ x8_1 then (if x8_1 ≤ (a0.size : Int) then (some (1, a0.extract (a1 : Int).toNat (x8_1 : Int).toNat, 0, a1, x8_1, 0)) else (none)) else (none)) else (none)))))) = some (r1, r2, r3, r4, r5, r6) := H
        have A12 := Aside0.mk A120
        clear A120
        by_cases c13 : t229 = true
        next =>
         subst c13
         have H1 : (spec_l3Token.l0 k1 a0 a1 (wrap64 (x8_1 + 1))) = some (r1, r2, r3, r4, r5, r6) := by rw [if_pos rfl] at H; exact H
         clear H
         have H := H1
         clear H1
         have H' := Aside0.mk H
         clear H
         have p11 : 0 ≤ (x8_1 : Int) := of_decide_eq_true z40q7
         have q11 : x8_1 < (a0.size : Int) := of_decide_eq_true z40q7
         have hx11 := bt_at a0 x8_1
         replace p11 := eq_true p11
         replace q11 := eq_true q11
         go_wp2_with (first | (go_at_call 70; (with_reducible refine (spec_l3Letter.calls (wrap64 (bt a0 x8_1)) true _ A12.out).mono ?_); rintro e w' ⟨rfl, ⟨nd, rfl⟩⟩))
         go_roundg k1
         case measure => have := HK1.out; omega
         case rel => exact ⟨(wrap64 (x8_1 + 1)), z40q11, H', ⟨by have := HK1.out; omega⟩, ⟨by (with_reducible repeat (first | refine blk_drewN ?_ _ | refine blk_drew ?_ | refine blk_alloc ?_ _)); exact BK227.out⟩, ⟨by repeat (first | (with_reducible first | exact HB.out | apply below_alloc | apply pw_below_drewN | apply below_drew1 | refine below_set ?_ GE227.out) | exact HB.out)⟩⟩
        next =>
         replace c13 := Bool.eq_false_iff.mpr c13
         subst c13
         have H1 : ((spec_l3Digit.f (wrap64 (bt a0 x8_1))).bind fun t230 => (if t230 = true then (spec_l3Token.l0 k1 a0 a1 (wrap64 (x8_1 + 1))) else (if (wrap64 (x8_1 - a1)) > 20 then (some (0, (⟨#[]⟩ : ByteArray), 0, 0, a1, 12)) else (if 0 ≤ a1 then (if a1 ≤ x8_1 then (if x8_1 ≤ (a0.size : Int) then (some (1, a0.extract (a1 : Int).toNat (x8_1 : Int).toNat, 0, a1, x8_1, 0)) else (none)) else (none)) else (none))))) = some (r1, r2, r3, r4, r5, r6) := by rw [if_neg (show ¬ (false = true) by decide)] at H; exact H
         clear H
         have H := H1
         clear H1
         replace H := Option.bind_eq_some_iff.mp H
         obtain ⟨t230, A150, H⟩ := H
         replace H : (if t230 = true then (spec_l3Token.l0 k1 a0 a1 (wrap64 (x8_1 + 1))) else (if (wrap64 (x8_1 - a1)) > 20 then (some (0, (⟨#[]⟩ : ByteArray), 0, 0, a1, 12)) else (if 0 ≤ a1 then (if a1 ≤ x8_1 then (if x8_1 ≤ (a0.size : Int) then (some (1, a0.extract (a1 : Int).toNat (x8_1 : Int).toNat, 0, a1, x8_1, 0)) else (none)) else (none)) else (none)))) = some (r1, r2, r3, r4, r5, r6) := H
         have A15 := Aside0.mk A150
         clear A150
         by_cases c16 : t230 = true
         next =>
          subst c16
          have H1 : (spec_l3Token.l0 k1 a0 a1 (wrap64 (x8_1 + 1))) = some (r1, r2, r3, r4, r5, r6) := by rw [if_pos rfl] at H; exact H
          clear H
          have H := H1
          clear H1
          have H' := Aside0.mk H
          clear H
          have p11 : 0 ≤ (x8_1 : Int) := of_decide_eq_true z40q7
          have q11 : x8_1 < (a0.size : Int) := of_decide_eq_true z40q7
          have hx11 := bt_at a0 x8_1
          replace p11 := eq_true p11
          replace q11 := eq_true q11
          go_wp2_with (first | (go_at_call 70; (with_reducible refine (spec_l3Letter.calls (wrap64 (bt a0 x8_1)) false _ A12.out).mono ?_); rintro e w' ⟨rfl, ⟨nd, rfl⟩⟩; have p14 : 0 ≤ (x8_1 : Int) := of_decide_eq_true z40q7; have q14 : x8_1 < (a0.size : Int) := of_decide_eq_true z40q7; have hx14 := bt_at a0 x8_1; replace p14 := eq_true p14; replace q14 := eq_true q14) | (go_at_call 71; (with_reducible refine (spec_l3Digit.calls (wrap64 (bt a0 x8_1)) true _ A15.out).mono ?_); rintro e w' ⟨rfl, ⟨nd, rfl⟩⟩))
          go_roundg k1
          case measure => have := HK1.out; omega
          case rel => exact ⟨(wrap64 (x8_1 + 1)), z40q11, H', ⟨by have := HK1.out; omega⟩, ⟨by (with_reducible repeat (first | refine blk_drewN ?_ _ | refine blk_drew ?_ | refine blk_alloc ?_ _)); exact BK227.out⟩, ⟨by repeat (first | (with_reducible first | exact HB.out | apply below_alloc | apply pw_below_drewN | apply below_drew1 | refine below_set ?_ GE227.out) | exact HB.out)⟩⟩
         next =>
          replace c16 := Bool.eq_false_iff.mpr c16
          subst c16
          have H1 : (if (wrap64 (x8_1 - a1)) > 20 then (some (0, (⟨#[]⟩ : ByteArray), 0, 0, a1, 12)) else (if 0 ≤ a1 then (if a1 ≤ x8_1 then (if x8_1 ≤ (a0.size : Int) then (some (1, a0.extract (a1 : Int).toNat (x8_1 : Int).toNat, 0, a1, x8_1, 0)) else (none)) else (none)) else (none))) = some (r1, r2, r3, r4, r5, r6) := by rw [if_neg (show ¬ (false = true) by decide)] at H; exact H
          clear H
          have H := H1
          clear H1
          by_cases c17 : (wrap64 (x8_1 - a1)) > 20
          next =>
           rw [if_pos c17] at H
           have c17b0 : decide (20 < (wrap64 (x8_1 - a1))) = true := decide_eq_true c17
           clear c17
           simp only [Option.some.injEq, Prod.mk.injEq] at H
           obtain ⟨rfl, rfl, rfl, rfl, rfl, rfl⟩ := H
           have p11 : 0 ≤ (x8_1 : Int) := of_decide_eq_true z40q7
           have q11 : x8_1 < (a0.size : Int) := of_decide_eq_true z40q7
           have hx11 := bt_at a0 x8_1
           replace p11 := eq_true p11
           replace q11 := eq_true q11
           go_wp2_with (first | (go_at_call 70; (with_reducible refine (spec_l3Letter.calls (wrap64 (bt a0 x8_1)) false _ A12.out).mono ?_); rintro e w' ⟨rfl, ⟨nd, rfl⟩⟩; (try (rw [drewN_self wr]; generalize hq_ : World.drewN wr _ = wr; have n0_ : Aside0 (wr.heap[gb227]? = some (.cells #[.int .i64 0, .string (⟨#[]⟩ : ByteArray), .int .i64 0, .int .i64 0] 31 (0, 0))) := ⟨by rw [← hq_]; exact z40q6⟩; have n1_ : Aside0 (Below w.heap.size w wr) := ⟨by rw [← hq_]; exact z40q4⟩; clear BK227 HB hq_; have BK227 := n0_; have HB := n1_; clear n0_ n1_)); have p14 : 0 ≤ (x8_1 : Int) := of_decide_eq_true z40q7; have q14 : x8_1 < (a0.size : Int) := of_decide_eq_true z40q7; have hx14 := bt_at a0 x8_1; replace p14 := eq_true p14; replace q14 := eq_true q14) | (go_at_call 71; (with_reducible refine (spec_l3Digit.calls (wrap64 (bt a0 x8_1)) false _ A15.out).mono ?_); rintro e w' ⟨rfl, ⟨nd, rfl⟩⟩; (try (rw [drewN_self wr]; generalize hq_ : World.drewN wr _ = wr; have n0_ : Aside0 (wr.heap[gb227]? = some (.cells #[.int .i64 0, .string (⟨#[]⟩ : ByteArray), .int .i64 0, .int .i64 0] 31 (0, 0))) := ⟨by rw [← hq_]; exact z40q6⟩; have n1_ : Aside0 (Below w.heap.size w wr) := ⟨by rw [← hq_]; exact z40q4⟩; clear BK227 HB hq_; have BK227 := n0_; have HB := n1_; clear n0_ n1_)); have hcz18_0 : wr.cell? ⟨gb227, 0, none⟩ = some (.int .i64 0) := (blk_cell BK227.out 0).trans rfl; have hcz18_1 : wr.cell? ⟨gb227, 1, none⟩ = some (.string (⟨#[]⟩ : ByteArray)) := (blk_cell BK227.out 1).trans rfl; have hcz18_2 : wr.cell? ⟨gb227, 2, none⟩ = some (.int .i64 0) := (blk_cell BK227.out 2).trans rfl; have hcz18_3 : wr.cell? ⟨gb227, 3, none⟩ = some (.int .i64 0) := (blk_cell BK227.out 3).trans rfl; have hfz18_0 := blk_frozen BK227.out 0; have hfz18_1 := blk_frozen BK227.out 1; have hfz18_2 := blk_frozen BK227.out 2; have hfz18_3 := blk_frozen BK227.out 3))
           refine bodyPost_ret (results_ctt rfl _ _ gb227 31 #[.int .i64 0, .string (⟨#[]⟩ : ByteArray), .int .i64 0, .int .i64 0] (0, 0) _ rfl z40q2 Try.underlying31 rfl (by kernel_rfl)) rfl ?_
           exact ⟨by first | rfl | (simp [errW_none, errW_some] <;> rfl) | (simp [*, errW_none, errW_some] <;> rfl), by repeat (first | (with_reducible first | exact HB.out | apply below_alloc | apply pw_below_drewN | apply below_drew1 | refine below_set ?_ GE227.out) | exact HB.out)⟩
          next =>
           rw [if_neg c17] at H
           have c17b0 : decide (20 < (wrap64 (x8_1 - a1))) = false := decide_eq_false c17
           clear c17
           by_cases c19 : 0 ≤ a1
           next =>
            rw [if_pos c19] at H
            have c19b0 := eq_true c19
            have c19b1 : decide (0 ≤ a1) = true := decide_eq_true c19
            clear c19
            by_cases c20 : a1 ≤ x8_1
            next =>
             rw [if_pos c20] at H
             have c20b0 := eq_true c20
             have c20b1 : decide (a1 ≤ x8_1) = true := decide_eq_true c20
             clear c20
             by_cases c21 : x8_1 ≤ (a0.size : Int)
             next =>
              rw [if_pos c21] at H
              have c21b0 := eq_true c21
              have c21b1 : decide (x8_1 ≤ (a0.size : Int)) = true := decide_eq_true c21
              clear c21
              simp only [Option.some.injEq, Prod.mk.injEq] at H
              obtain ⟨rfl, rfl, rfl, rfl, rfl, rfl⟩ := H
              have p11 : 0 ≤ (x8_1 : Int) := of_decide_eq_true z40q7
              have q11 : x8_1 < (a0.size : Int) := of_decide_eq_true z40q7
              have hx11 := bt_at a0 x8_1
              replace p11 := eq_true p11
              replace q11 := eq_true q11
              go_wp2_with (first | (go_at_call 70; (with_reducible refine (spec_l3Letter.calls (wrap64 (bt a0 x8_1)) false _ A12.out).mono ?_); rintro e w' ⟨rfl, ⟨nd, rfl⟩⟩; (try (rw [drewN_self wr]; generalize hq_ : World.drewN wr _ = wr; have n0_ : Aside0 (wr.heap[gb227]? = some (.cells #[.int .i64 0, .string (⟨#[]⟩ : ByteArray), .int .i64 0, .int .i64 0] 31 (0, 0))) := ⟨by rw [← hq_]; exact z40q6⟩; have n1_ : Aside0 (Below w.heap.size w wr) := ⟨by rw [← hq_]; exact z40q4⟩; clear BK227 HB hq_; have BK227 := n0_; have HB := n1_; clear n0_ n1_)); have p14 : 0 ≤ (x8_1 : Int) := of_decide_eq_true z40q7; have q14 : x8_1 < (a0.size : Int) := of_decide_eq_true z40q7; have hx14 := bt_at a0 x8_1; replace p14 := eq_true p14; replace q14 := eq_true q14) | (go_at_call 71; (with_reducible refine (spec_l3Digit.calls (wrap64 (bt a0 x8_1)) false _ A15.out).mono ?_); rintro e w' ⟨rfl, ⟨nd, rfl⟩⟩; (try (rw [drewN_self wr]; generalize hq_ : World.drewN wr _ = wr; have n0_ : Aside0 (wr.heap[gb227]? = some (.cells #[.int .i64 0, .string (⟨#[]⟩ : ByteArray), .int .i64 0, .int .i64 0] 31 (0, 0))) := ⟨by rw [← hq_]; exact z40q6⟩; have n1_ : Aside0 (Below w.heap.size w wr) := ⟨by rw [← hq_]; exact z40q4⟩; clear BK227 HB hq_; have BK227 := n0_; have HB := n1_; clear n0_ n1_)); have hcz22_0 : wr.cell? ⟨gb227, 0, none⟩ = some (.int .i64 0) := (blk_cell BK227.out 0).trans rfl; have hcz22_1 : wr.cell? ⟨gb227, 1, none⟩ = some (.string (⟨#[]⟩ : ByteArray)) := (blk_cell BK227.out 1).trans rfl; have hcz22_2 : wr.cell? ⟨gb227, 2, none⟩ = some (.int .i64 0) := (blk_cell BK227.out 2).trans rfl; have hcz22_3 : wr.cell? ⟨gb227, 3, none⟩ = some (.int .i64 0) := (blk_cell BK227.out 3).trans rfl; have hfz22_0 := blk_frozen BK227.out 0; have hfz22_1 := blk_frozen BK227.out 1; have hfz22_2 := blk_frozen BK227.out 2; have hfz22_3 := blk_frozen BK227.out 3))
              refine bodyPost_ret (results_ctt rfl _ _ gb227 31 #[.int .i64 1, .string (a0.extract (a1 : Int).toNat (x8_1 : Int).toNat), .int .i64 0, .int .i64 a1] (0, 0) _ rfl z40q8 Try.underlying31 rfl (by kernel_rfl)) rfl ?_
              exact ⟨by first | rfl | (simp [errW_none, errW_some] <;> rfl) | (simp [*, errW_none, errW_some] <;> rfl), by repeat (first | (with_reducible first | exact HB.out | apply below_alloc | apply pw_below_drewN | apply below_drew1 | refine below_set ?_ GE227.out) | exact HB.out)⟩
             next =>
              rw [if_neg c21] at H
              exact absurd H (by simp)
            next =>
             rw [if_neg c20] at H
             exact absurd H (by simp)
           next =>
            rw [if_neg c19] at H
            exact absurd H (by simp)
       next =>
        rw [if_neg c10] at H
        exact absurd H (by simp)
      next =>
       rw [if_neg c9] at H
       have c9b0 : decide (x8_1 < (a0.size : Int)) = false := decide_eq_false c9
       clear c9
       by_cases c23 : (wrap64 (x8_1 - a1)) > 20
       next =>
        rw [if_pos c23] at H
        have c23b0 : decide (20 < (wrap64 (x8_1 - a1))) = true := decide_eq_true c23
        clear c23
        simp only [Option.some.injEq, Prod.mk.injEq] at H
        obtain ⟨rfl, rfl, rfl, rfl, rfl, rfl⟩ := H
        have hcz24_0 : wr.cell? ⟨gb227, 0, none⟩ = some (.int .i64 0) := (blk_cell BK227.out 0).trans rfl
        have hcz24_1 : wr.cell? ⟨gb227, 1, none⟩ = some (.string (⟨#[]⟩ : ByteArray)) := (blk_cell BK227.out 1).trans rfl
        have hcz24_2 : wr.cell? ⟨gb227, 2, none⟩ = some (.int .i64 0) := (blk_cell BK227.out 2).trans rfl
        have hcz24_3 : wr.cell? ⟨gb227, 3, none⟩ = some (.int .i64 0) := (blk_cell BK227.out 3).trans rfl
        have hfz24_0 := blk_frozen BK227.out 0
        have hfz24_1 := blk_frozen BK227.out 1
        have hfz24_2 := blk_frozen BK227.out 2
        have hfz24_3 := blk_frozen BK227.out 3
        go_wp2
        refine bodyPost_ret (results_ctt rfl _ _ gb227 31 #[.int .i64 0, .string (⟨#[]⟩ : ByteArray), .int .i64 0, .int .i64 0] (0, 0) _ rfl z40q2 Try.underlying31 rfl (by kernel_rfl)) rfl ?_
        exact ⟨by first | rfl | (simp [errW_none, errW_some] <;> rfl) | (simp [*, errW_none, errW_some] <;> rfl), by repeat (first | (with_reducible first | exact HB.out | apply below_alloc | apply pw_below_drewN | apply below_drew1 | refine below_set ?_ GE227.out) | exact HB.out)⟩
       next =>
        rw [if_neg c23] at H
        have c23b0 : decide (20 < (wrap64 (x8_1 - a1))) = false := decide_eq_false c23
        clear c23
        by_cases c25 : 0 ≤ a1
        next =>
         rw [if_pos c25] at H
         have c25b0 := eq_true c25
         have c25b1 : decide (0 ≤ a1) = true := decide_eq_true c25
         clear c25
         by_cases c26 : a1 ≤ x8_1
         next =>
          rw [if_pos c26] at H
          have c26b0 := eq_true c26
          have c26b1 : decide (a1 ≤ x8_1) = true := decide_eq_true c26
          clear c26
          by_cases c27 : x8_1 ≤ (a0.size : Int)
          next =>
           rw [if_pos c27] at H
           have c27b0 := eq_true c27
           have c27b1 : decide (x8_1 ≤ (a0.size : Int)) = true := decide_eq_true c27
           clear c27
           simp only [Option.some.injEq, Prod.mk.injEq] at H
           obtain ⟨rfl, rfl, rfl, rfl, rfl, rfl⟩ := H
           have hcz28_0 : wr.cell? ⟨gb227, 0, none⟩ = some (.int .i64 0) := (blk_cell BK227.out 0).trans rfl
           have hcz28_1 : wr.cell? ⟨gb227, 1, none⟩ = some (.string (⟨#[]⟩ : ByteArray)) := (blk_cell BK227.out 1).trans rfl
           have hcz28_2 : wr.cell? ⟨gb227, 2, none⟩ = some (.int .i64 0) := (blk_cell BK227.out 2).trans rfl
           have hcz28_3 : wr.cell? ⟨gb227, 3, none⟩ = some (.int .i64 0) := (blk_cell BK227.out 3).trans rfl
           have hfz28_0 := blk_frozen BK227.out 0
           have hfz28_1 := blk_frozen BK227.out 1
           have hfz28_2 := blk_frozen BK227.out 2
           have hfz28_3 := blk_frozen BK227.out 3
           go_wp2
           refine bodyPost_ret (results_ctt rfl _ _ gb227 31 #[.int .i64 1, .string (a0.extract (a1 : Int).toNat (x8_1 : Int).toNat), .int .i64 0, .int .i64 a1] (0, 0) _ rfl z40q8 Try.underlying31 rfl (by kernel_rfl)) rfl ?_
           exact ⟨by first | rfl | (simp [errW_none, errW_some] <;> rfl) | (simp [*, errW_none, errW_some] <;> rfl), by repeat (first | (with_reducible first | exact HB.out | apply below_alloc | apply pw_below_drewN | apply below_drew1 | refine below_set ?_ GE227.out) | exact HB.out)⟩
          next =>
           rw [if_neg c27] at H
           exact absurd H (by simp)
         next =>
          rw [if_neg c26] at H
          exact absurd H (by simp)
        next =>
         rw [if_neg c25] at H
         exact absurd H (by simp)
   next =>
    replace c7 := Bool.eq_false_iff.mpr c7
    subst c7
    have H1 : ((spec_l3Digit.f (wrap64 (bt a0 a1))).bind fun t231 => (if t231 = true then (spec_l3Token.l1 k a0 a1 (wrap64 (bt a0 a1)) a1 0) else (if (wrap64 (bt a0 a1)) = 123 then (if a1 ≤ (wrap64 (a1 + 1)) then (if (wrap64 (a1 + 1)) ≤ (a0.size : Int) then (some (3, a0.extract (a1 : Int).toNat ((wrap64 (a1 + 1)) : Int).toNat, 0, a1, wrap64 (a1 + 1), 0)) else (none)) else (none)) else (if (wrap64 (bt a0 a1)) = 125 then (if a1 ≤ (wrap64 (a1 + 1)) then (if (wrap64 (a1 + 1)) ≤ (a0.size : Int) then (some (3, a0.extract (a1 : Int).toNat ((wrap64 (a1 + 1)) : Int).toNat, 0, a1, wrap64 (a1 + 1), 0)) else (none)) else (none)) else (if (wrap64 (bt a0 a1)) = 61 then (if a1 ≤ (wrap64 (a1 + 1)) then (if (wrap64 (a1 + 1)) ≤ (a0.size : Int) then (some (3, a0.extract (a1 : Int).toNat ((wrap64 (a1 + 1)) : Int).toNat, 0, a1, wrap64 (a1 + 1), 0)) else (none)) else (none)) else (if (wrap64 (bt a0 a1)) = 59 then (if a1 ≤ (wrap64 (a1 + 1)) then (if (wrap64 (a1 + 1)) ≤ (a0.size : Int) then (some (3, a0.extract (a1 : Int).toNat ((wrap64 (a1 + 1)) : Int).toNat, 0, a1, wrap64 (a1 + 1), 0)) else (none)) else (none)) else (if (wrap64 (bt a0 a1)) = 44 then (if a1 ≤ (wrap64 (a1 + 1)) then (if (wrap64 (a1 + 1)) ≤ (a0.size : Int) then (some (3, a0.extract (a1 : Int).toNat ((wrap64 (a1 + 1)) : Int).toNat, 0, a1, wrap64 (a1 + 1), 0)) else (none)) else (none)) else (if (wrap64 (bt a0 a1)) = 46 then (if a1 ≤ (wrap64 (a1 + 1)) then (if (wrap64 (a1 + 1)) ≤ (a0.size : Int) then (some (3, a0.extract (a1 : Int).toNat ((wrap64 (a1 + 1)) : Int).toNat, 0, a1, wrap64 (a1 + 1), 0)) else (none)) else (none)) else (if (wrap64 (bt a0 a1)) = 45 then (if a1 ≤ (wrap64 (a1 + 1)) then (if (wrap64 (a1 + 1)) ≤ (a0.size : Int) then (some (3, a0.extract (a1 : Int).toNat ((wrap64 (a1 + 1)) : Int).toNat, 0, a1, wrap64 (a1 + 1), 0)) else (none)) else (none)) else (some (0, (⟨#[]⟩ : ByteArray), 0, 0, a1, 11))))))))))) = some (r1, r2, r3, r4, r5, r6) := by rw [if_neg (show ¬ (false = true) by decide)] at H; exact H
    clear H
    have H := H1
    clear H1
    replace H := Option.bind_eq_some_iff.mp H
    obtain ⟨t231, A290, H⟩ := H
    replace H : (if t231 = true then (spec_l3Token.l1 k a0 a1 (wrap64 (bt a0 a1)) a1 0) else (if (wrap64 (bt a0 a1)) = 123 then (if a1 ≤ (wrap64 (a1 + 1)) then (if (wrap64 (a1 + 1)) ≤ (a0.size : Int) then (some (3, a0.extract (a1 : Int).toNat ((wrap64 (a1 + 1)) : Int).toNat, 0, a1, wrap64 (a1 + 1), 0)) else (none)) else (none)) else (if (wrap64 (bt a0 a1)) = 125 then (if a1 ≤ (wrap64 (a1 + 1)) then (if (wrap64 (a1 + 1)) ≤ (a0.size : Int) then (some (3, a0.extract (a1 : Int).toNat ((wrap64 (a1 + 1)) : Int).toNat, 0, a1, wrap64 (a1 + 1), 0)) else (none)) else (none)) else (if (wrap64 (bt a0 a1)) = 61 then (if a1 ≤ (wrap64 (a1 + 1)) then (if (wrap64 (a1 + 1)) ≤ (a0.size : Int) then (some (3, a0.extract (a1 : Int).toNat ((wrap64 (a1 + 1)) : Int).toNat, 0, a1, wrap64 (a1 + 1), 0)) else (none)) else (none)) else (if (wrap64 (bt a0 a1)) = 59 then (if a1 ≤ (wrap64 (a1 + 1)) then (if (wrap64 (a1 + 1)) ≤ (a0.size : Int) then (some (3, a0.extract (a1 : Int).toNat ((wrap64 (a1 + 1)) : Int).toNat, 0, a1, wrap64 (a1 + 1), 0)) else (none)) else (none)) else (if (wrap64 (bt a0 a1)) = 44 then (if a1 ≤ (wrap64 (a1 + 1)) then (if (wrap64 (a1 + 1)) ≤ (a0.size : Int) then (some (3, a0.extract (a1 : Int).toNat ((wrap64 (a1 + 1)) : Int).toNat, 0, a1, wrap64 (a1 + 1), 0)) else (none)) else (none)) else (if (wrap64 (bt a0 a1)) = 46 then (if a1 ≤ (wrap64 (a1 + 1)) then (if (wrap64 (a1 + 1)) ≤ (a0.size : Int) then (some (3, a0.extract (a1 : Int).toNat ((wrap64 (a1 + 1)) : Int).toNat, 0, a1, wrap64 (a1 + 1), 0)) else (none)) else (none)) else (if (wrap64 (bt a0 a1)) = 45 then (if a1 ≤ (wrap64 (a1 + 1)) then (if (wrap64 (a1 + 1)) ≤ (a0.size : Int) then (some (3, a0.extract (a1 : Int).toNat ((wrap64 (a1 + 1)) : Int).toNat, 0, a1, wrap64 (a1 + 1), 0)) else (none)) else (none)) else (some (0, (⟨#[]⟩ : ByteArray), 0, 0, a1, 11)))))))))) = some (r1, r2, r3, r4, r5, r6) := H
    have A29 := Aside0.mk A290
    clear A290
    by_cases c30 : t231 = true
    next =>
     subst c30
     have H1 : (spec_l3Token.l1 k a0 a1 (wrap64 (bt a0 a1)) a1 0) = some (r1, r2, r3, r4, r5, r6) := by rw [if_pos rfl] at H; exact H
     clear H
     have H := H1
     clear H1
     have H' := Aside0.mk H
     clear H
     go_enter Try.func40, Try.ntmps40
     go_wp2_with (first | ((with_reducible refine gate_dst (N := 4) rfl ?_); refine box_event ?hg (N := 4) ?hd (cs := #[.int .i64 0, .string (⟨#[]⟩ : ByteArray), .int .i64 0, .int .i64 0]) (t := 31) ?hr ?_; (case hd => rfl); (case hg => rfl); (case hr => first | (go_simp; done) | (go_simp; rfl)); intro gb227 hg w31 hbox hb; have n0_ := Aside0.mk (below_step z40q3 hb); have n1_ := Aside0.mk (hbox); have n2_ := Aside0.mk ((z40q10 : w.heap.size ≤ gb227)); have n3_ := Aside0.mk ((z40q10 : w.heap.size ≤ gb227)); clear HB; have HB := n0_; have BK227 := n1_; have GW227 := n2_; have GE227 := n3_; clear n0_ n1_ n2_ n3_; clear hb hbox hg; have p5 : 0 ≤ (a1 : Int) := of_decide_eq_true z40q7; have q5 : a1 < (a0.size : Int) := of_decide_eq_true z40q7; have hx5 := bt_at a0 a1; replace p5 := eq_true p5; replace q5 := eq_true q5) | ((with_reducible refine gate_callee (f := 70) rfl ?_); refine goesL_ (some 17) rfl rfl Try.func70 (by kernel_rfl) rfl #[.int .i64 (wrap64 (bt a0 a1))] rfl z40q5 ?_; (with_reducible refine (spec_l3Letter.calls (wrap64 (bt a0 a1)) false _ A6.out).mono ?_); rintro e w' ⟨rfl, ⟨nd, rfl⟩⟩; refine ⟨_, rfl, ?_⟩) | ((with_reducible refine gate_callee (f := 71) rfl ?_); refine goesL_ (some 53) rfl rfl Try.func71 (by kernel_rfl) rfl #[.int .i64 (wrap64 (bt a0 a1))] rfl z40q5 ?_; (with_reducible refine (spec_l3Digit.calls (wrap64 (bt a0 a1)) true _ A29.out).mono ?_); rintro e w' ⟨rfl, ⟨nd, rfl⟩⟩; refine ⟨_, rfl, ?_⟩))
     go_loopg [8, 9] k (fun kq v8 v9 w' => ∃ (x8_1 : Int) (x9_1 : Int), v8 = .int .i64 x8_1 ∧ v9 = .int .i64 x9_1 ∧ Aside0 (spec_l3Token.l1 kq a0 a1 (wrap64 (bt a0 a1)) x8_1 x9_1 = some (r1, r2, r3, r4, r5, r6)) ∧ Aside0 (kq ≤ k) ∧ Aside0 (w'.heap[gb227]? = some (.cells #[.int .i64 0, .string (⟨#[]⟩ : ByteArray), .int .i64 0, .int .i64 0] 31 (0, 0))) ∧ Aside0 (Below w.heap.size w w'))
     case atStart => exact ⟨(a1), (0), z40q11, z40q11, H', ⟨Nat.le_refl _⟩, ⟨by (with_reducible repeat (first | refine blk_drewN ?_ _ | refine blk_drew ?_ | refine blk_alloc ?_ _)); exact BK227.out⟩, ⟨by repeat (first | (with_reducible first | exact HB.out | apply below_alloc | apply pw_below_drewN | apply below_drew1 | refine below_set ?_ GE227.out) | exact HB.out)⟩⟩
     case round =>
      clear H'
      try clear c1
      try clear p1
      try clear q1
      try clear hx1
      try clear c2
      try clear p2
      try clear c3
      try clear c3b0
      try clear c4
      try clear c4b0
      try clear p5
      try clear q5
      try clear hx5
      try clear p6
      try clear c7
      try clear c9
      try clear c9b0
      try clear c10
      try clear c10b0
      try clear p11
      try clear q11
      try clear hx11
      try clear c13
      try clear p14
      try clear q14
      try clear hx14
      try clear c16
      try clear c17
      try clear c17b0
      try clear c19
      try clear c19b0
      try clear c19b1
      try clear c20
      try clear c20b0
      try clear c20b1
      try clear c21
      try clear c21b0
      try clear c21b1
      try clear c23
      try clear c23b0
      try clear c25
      try clear c25b0
      try clear c25b1
      try clear c26
      try clear c26b0
      try clear c26b1
      try clear c27
      try clear c27b0
      try clear c27b1
      try clear c30
      try clear hcz18_0
      try clear hcz18_1
      try clear hcz18_2
      try clear hcz18_3
      try clear hcz22_0
      try clear hcz22_1
      try clear hcz22_2
      try clear hcz22_3
      try clear hcz24_0
      try clear hcz24_1
      try clear hcz24_2
      try clear hcz24_3
      try clear hcz28_0
      try clear hcz28_1
      try clear hcz28_2
      try clear hcz28_3
      try clear hfz18_0
      try clear hfz18_1
      try clear hfz18_2
      try clear hfz18_3
      try clear hfz22_0
      try clear hfz22_1
      try clear hfz22_2
      try clear hfz22_3
      try clear hfz24_0
      try clear hfz24_1
      try clear hfz24_2
      try clear hfz24_3
      try clear hfz28_0
      try clear hfz28_1
      try clear hfz28_2
      try clear hfz28_3
      try clear p11
      try clear p14
      try clear p2
      try clear p5
      try clear p6
      try clear q11
      try clear q14
      try clear q5
      obtain ⟨x8_1, x9_1, rfl, rfl, HA, HK1, BK227, HB⟩ := hrel
      cases gk with
      | zero => exact absurd HA.out (by simp [spec_l3Token.l1])
      | succ k1 =>
       have H := HA.out
       clear HA
       simp only [spec_l3Token.l1] at H
       have HC32 := Aside0.mk H
       clear H
       go_upto_region 11 with (fail)
       go_cut [64] (fun v64 wc => ∃ (kq : Nat) (x64_31 : Bool), v64 = .bool x64_31 ∧ Aside0 (spec_l3Token.j2 kq a0 a1 (wrap64 (bt a0 a1)) x8_1 x9_1 x64_31 = some (r1, r2, r3, r4, r5, r6)) ∧ Aside0 (kq ≤ k1) ∧ Aside0 (wc.heap[gb227]? = some (.cells #[.int .i64 0, .string (⟨#[]⟩ : ByteArray), .int .i64 0, .int .i64 0] 31 (0, 0))) ∧ Aside0 (Below w.heap.size w wc))
       case first =>
        have H := HC32.out
        clear HC32
        by_cases c33 : x8_1 < (a0.size : Int)
        next =>
         rw [if_pos c33] at H
         have c33b0 : decide (x8_1 < (a0.size : Int)) = true := decide_eq_true c33
         clear c33
         (first | rw [c33b0] | (simp only [i64_w, i32_w]; rw [c33b0]) | skip)
         by_cases c34 : 0 ≤ x8_1
         next =>
          rw [if_pos c34] at H
          have c34b0 : decide (0 ≤ x8_1) = true := decide_eq_true c34
          clear c34
          replace H := Option.bind_eq_some_iff.mp H
          obtain ⟨t232, A360, H⟩ := H
          replace H : (spec_l3Token.j2 k1 a0 a1 (wrap64 (bt a0 a1)) x8_1 x9_1 t232) = some (r1, r2, r3, r4, r5, r6) := H
          have A36 := Aside0.mk A360
          clear A360
          have H' := Aside0.mk H
          clear H
          have p35 : 0 ≤ (x8_1 : Int) := of_decide_eq_true z40q7
          have q35 : x8_1 < (a0.size : Int) := of_decide_eq_true z40q7
          have hx35 := bt_at a0 x8_1
          replace p35 := eq_true p35
          replace q35 := eq_true q35
          go_wp2_with (first | (go_at_call 71; (with_reducible refine (spec_l3Digit.calls (wrap64 (bt a0 x8_1)) t232 _ A36.out).mono ?_); rintro e w' ⟨rfl, ⟨nd, rfl⟩⟩))
          go_meet
          case rel => exact ⟨_, (t232), z40q11, H', ⟨by have := HK1.out; first | omega | exact Nat.le_refl _⟩, ⟨by (with_reducible repeat (first | refine blk_drewN ?_ _ | refine blk_drew ?_ | refine blk_alloc ?_ _)); exact BK227.out⟩, ⟨by repeat (first | (with_reducible first | exact HB.out | apply below_alloc | apply pw_below_drewN | apply below_drew1 | refine below_set ?_ GE227.out) | exact HB.out)⟩⟩
         next =>
          rw [if_neg c34] at H
          exact absurd H (by simp)
        next =>
         rw [if_neg c33] at H
         have c33b0 : decide (x8_1 < (a0.size : Int)) = false := decide_eq_false c33
         clear c33
         (first | rw [c33b0] | (simp only [i64_w, i32_w]; rw [c33b0]) | skip)
         have H' := Aside0.mk H
         clear H
         go_wp2
         go_meet
         case rel => exact ⟨_, (false), z40q11, H', ⟨by have := HK1.out; first | omega | exact Nat.le_refl _⟩, ⟨by (with_reducible repeat (first | refine blk_drewN ?_ _ | refine blk_drew ?_ | refine blk_alloc ?_ _)); exact BK227.out⟩, ⟨by repeat (first | (with_reducible first | exact HB.out | apply below_alloc | apply pw_below_drewN | apply below_drew1 | refine below_set ?_ GE227.out) | exact HB.out)⟩⟩
       case rest =>
        clear HC32
        try clear c1
        try clear p1
        try clear q1
        try clear hx1
        try clear c2
        try clear p2
        try clear c3
        try clear c3b0
        try clear p3
        try clear q3
        try clear hx3
        try clear c4
        try clear c4b0
        try clear p5
        try clear q5
        try clear hx5
        try clear p6
        try clear c7
        try clear c9
        try clear c9b0
        try clear c10
        try clear c10b0
        try clear p11
        try clear q11
        try clear hx11
        try clear c13
        try clear p14
        try clear q14
        try clear hx14
        try clear c16
        try clear c17
        try clear c17b0
        try clear c19
        try clear c19b0
        try clear c19b1
        try clear c20
        try clear c20b0
        try clear c20b1
        try clear c21
        try clear c21b0
        try clear c21b1
        try clear c23
        try clear c23b0
        try clear c25
        try clear c25b0
        try clear c25b1
        try clear c26
        try clear c26b0
        try clear c26b1
        try clear c27
        try clear c27b0
        try clear c27b1
        try clear c30
        try clear c33
        try clear c33b0
        try clear c34
        try clear c34b0
        try clear p35
        try clear q35
        try clear hx35
        try clear hcz18_0
        try clear hcz18_1
        try clear hcz18_2
        try clear hcz18_3
        try clear hcz22_0
        try clear hcz22_1
        try clear hcz22_2
        try clear hcz22_3
        try clear hcz24_0
        try clear hcz24_1
        try clear hcz24_2
        try clear hcz24_3
        try clear hcz28_0
        try clear hcz28_1
        try clear hcz28_2
        try clear hcz28_3
        try clear hfz18_0
        try clear hfz18_1
        try clear hfz18_2
        try clear hfz18_3
        try clear hfz22_0
        try clear hfz22_1
        try clear hfz22_2
        try clear hfz22_3
        try clear hfz24_0
        try clear hfz24_1
        try clear hfz24_2
        try clear hfz24_3
        try clear hfz28_0
        try clear hfz28_1
        try clear hfz28_2
        try clear hfz28_3
        try clear p1
        try clear p11
        try clear p14
        try clear p2
        try clear p35
        try clear p5
        try clear p6
        try clear q1
        try clear q11
        try clear q14
        try clear q35
        try clear q5
        obtain ⟨kq, x64_31, rfl, HA, HJ31, BK227, HB⟩ := hcut
        cases kq with
        | zero => exact absurd HA.out (by simp [spec_l3Token.j2])
        | succ kj31 =>
         have H := HA.out
         clear HA
         simp only [spec_l3Token.j2] at H
         by_cases c37 : x64_31 = true
         next =>
          subst c37
          have H1 : (if x9_1 ≤ 2147483647 then (if 0 ≤ x8_1 then (if x8_1 < (a0.size : Int) then (spec_l3Token.l1 kj31 a0 a1 (wrap64 (bt a0 a1)) (wrap64 (x8_1 + 1)) (wrap64 ((wrap64 (x9_1 * 10)) + (((bt a0 x8_1) - 48) % 256)))) else (none)) else (none)) else (spec_l3Token.l1 kj31 a0 a1 (wrap64 (bt a0 a1)) (wrap64 (x8_1 + 1)) x9_1)) = some (r1, r2, r3, r4, r5, r6) := by rw [if_pos rfl] at H; exact H
          clear H
          have H := H1
          clear H1
          by_cases c38 : x9_1 ≤ 2147483647
          next =>
           rw [if_pos c38] at H
           have c38b0 : decide (x9_1 ≤ 2147483647) = true := decide_eq_true c38
           clear c38
           by_cases c39 : 0 ≤ x8_1
           next =>
            rw [if_pos c39] at H
            have c39b0 : decide (0 ≤ x8_1) = true := decide_eq_true c39
            clear c39
            by_cases c40 : x8_1 < (a0.size : Int)
            next =>
             rw [if_pos c40] at H
             have c40b0 : decide (x8_1 < (a0.size : Int)) = true := decide_eq_true c40
             clear c40
             have H' := Aside0.mk H
             clear H
             have p41 : 0 ≤ (x8_1 : Int) := of_decide_eq_true z40q7
             have q41 : x8_1 < (a0.size : Int) := of_decide_eq_true z40q7
             have hx41 := bt_at a0 x8_1
             replace p41 := eq_true p41
             replace q41 := eq_true q41
             go_wp2
             go_roundg kj31
             case measure => have := HK1.out; have := HJ31.out; omega
             case rel => exact ⟨(wrap64 (x8_1 + 1)), (wrap64 ((wrap64 (x9_1 * 10)) + (((bt a0 x8_1) - 48) % 256))), z40q11, z40q11, H', ⟨by have := HK1.out; have := HJ31.out; omega⟩, ⟨by (with_reducible repeat (first | refine blk_drewN ?_ _ | refine blk_drew ?_ | refine blk_alloc ?_ _)); exact BK227.out⟩, ⟨by repeat (first | (with_reducible first | exact HB.out | apply below_alloc | apply pw_below_drewN | apply below_drew1 | refine below_set ?_ GE227.out) | exact HB.out)⟩⟩
            next =>
             rw [if_neg c40] at H
             exact absurd H (by simp)
           next =>
            rw [if_neg c39] at H
            exact absurd H (by simp)
          next =>
           rw [if_neg c38] at H
           have c38b0 : decide (x9_1 ≤ 2147483647) = false := decide_eq_false c38
           clear c38
           have H' := Aside0.mk H
           clear H
           go_wp2
           go_roundg kj31
           case measure => have := HK1.out; have := HJ31.out; omega
           case rel => exact ⟨(wrap64 (x8_1 + 1)), (x9_1), z40q11, z40q11, H', ⟨by have := HK1.out; have := HJ31.out; omega⟩, ⟨by (with_reducible repeat (first | refine blk_drewN ?_ _ | refine blk_drew ?_ | refine blk_alloc ?_ _)); exact BK227.out⟩, ⟨by repeat (first | (with_reducible first | exact HB.out | apply below_alloc | apply pw_below_drewN | apply below_drew1 | refine below_set ?_ GE227.out) | exact HB.out)⟩⟩
         next =>
          replace c37 := Bool.eq_false_iff.mpr c37
          subst c37
          have H1 : (if x9_1 > 2147483647 then (some (0, (⟨#[]⟩ : ByteArray), 0, 0, a1, 13)) else (if (wrap64 (bt a0 a1)) = 48 then (if x8_1 > (wrap64 (a1 + 1)) then (some (0, (⟨#[]⟩ : ByteArray), 0, 0, a1, 13)) else (some (2, (⟨#[]⟩ : ByteArray), x9_1, a1, x8_1, 0))) else (some (2, (⟨#[]⟩ : ByteArray), x9_1, a1, x8_1, 0)))) = some (r1, r2, r3, r4, r5, r6) := by rw [if_neg (show ¬ (false = true) by decide)] at H; exact H
          clear H
          have H := H1
          clear H1
          by_cases c42 : x9_1 > 2147483647
          next =>
           rw [if_pos c42] at H
           have c42b0 : decide (2147483647 < x9_1) = true := decide_eq_true c42
           clear c42
           simp only [Option.some.injEq, Prod.mk.injEq] at H
           obtain ⟨rfl, rfl, rfl, rfl, rfl, rfl⟩ := H
           have hcz43_0 : wc.cell? ⟨gb227, 0, none⟩ = some (.int .i64 0) := (blk_cell BK227.out 0).trans rfl
           have hcz43_1 : wc.cell? ⟨gb227, 1, none⟩ = some (.string (⟨#[]⟩ : ByteArray)) := (blk_cell BK227.out 1).trans rfl
           have hcz43_2 : wc.cell? ⟨gb227, 2, none⟩ = some (.int .i64 0) := (blk_cell BK227.out 2).trans rfl
           have hcz43_3 : wc.cell? ⟨gb227, 3, none⟩ = some (.int .i64 0) := (blk_cell BK227.out 3).trans rfl
           have hfz43_0 := blk_frozen BK227.out 0
           have hfz43_1 := blk_frozen BK227.out 1
           have hfz43_2 := blk_frozen BK227.out 2
           have hfz43_3 := blk_frozen BK227.out 3
           go_wp2
           refine bodyPost_ret (results_ctt rfl _ _ gb227 31 #[.int .i64 0, .string (⟨#[]⟩ : ByteArray), .int .i64 0, .int .i64 0] (0, 0) _ rfl z40q2 Try.underlying31 rfl (by kernel_rfl)) rfl ?_
           exact ⟨by first | rfl | (simp [errW_none, errW_some] <;> rfl) | (simp [*, errW_none, errW_some] <;> rfl), by repeat (first | (with_reducible first | exact HB.out | apply below_alloc | apply pw_below_drewN | apply below_drew1 | refine below_set ?_ GE227.out) | exact HB.out)⟩
          next =>
           rw [if_neg c42] at H
           have c42b0 : decide (2147483647 < x9_1) = false := decide_eq_false c42
           clear c42
           by_cases c44 : (wrap64 (bt a0 a1)) = 48
           next =>
            rw [if_pos c44] at H
            have c44b0 : ((wrap64 (bt a0 a1)) == 48) = true := beq_iff_eq.mpr c44
            have c44b1 : ((wrap64 (bt a0 a1)) != 48) = false := bne_eq_false_iff_eq.mpr c44
            clear c44
            by_cases c45 : x8_1 > (wrap64 (a1 + 1))
            next =>
             rw [if_pos c45] at H
             have c45b0 : decide ((wrap64 (a1 + 1)) < x8_1) = true := decide_eq_true c45
             clear c45
             simp only [Option.some.injEq, Prod.mk.injEq] at H
             obtain ⟨rfl, rfl, rfl, rfl, rfl, rfl⟩ := H
             have hcz46_0 : wc.cell? ⟨gb227, 0, none⟩ = some (.int .i64 0) := (blk_cell BK227.out 0).trans rfl
             have hcz46_1 : wc.cell? ⟨gb227, 1, none⟩ = some (.string (⟨#[]⟩ : ByteArray)) := (blk_cell BK227.out 1).trans rfl
             have hcz46_2 : wc.cell? ⟨gb227, 2, none⟩ = some (.int .i64 0) := (blk_cell BK227.out 2).trans rfl
             have hcz46_3 : wc.cell? ⟨gb227, 3, none⟩ = some (.int .i64 0) := (blk_cell BK227.out 3).trans rfl
             have hfz46_0 := blk_frozen BK227.out 0
             have hfz46_1 := blk_frozen BK227.out 1
             have hfz46_2 := blk_frozen BK227.out 2
             have hfz46_3 := blk_frozen BK227.out 3
             go_wp2
             refine bodyPost_ret (results_ctt rfl _ _ gb227 31 #[.int .i64 0, .string (⟨#[]⟩ : ByteArray), .int .i64 0, .int .i64 0] (0, 0) _ rfl z40q2 Try.underlying31 rfl (by kernel_rfl)) rfl ?_
             exact ⟨by first | rfl | (simp [errW_none, errW_some] <;> rfl) | (simp [*, errW_none, errW_some] <;> rfl), by repeat (first | (with_reducible first | exact HB.out | apply below_alloc | apply pw_below_drewN | apply below_drew1 | refine below_set ?_ GE227.out) | exact HB.out)⟩
            next =>
             rw [if_neg c45] at H
             have c45b0 : decide ((wrap64 (a1 + 1)) < x8_1) = false := decide_eq_false c45
             clear c45
             simp only [Option.some.injEq, Prod.mk.injEq] at H
             obtain ⟨rfl, rfl, rfl, rfl, rfl, rfl⟩ := H
             have hcz47_0 : wc.cell? ⟨gb227, 0, none⟩ = some (.int .i64 0) := (blk_cell BK227.out 0).trans rfl
             have hcz47_1 : wc.cell? ⟨gb227, 1, none⟩ = some (.string (⟨#[]⟩ : ByteArray)) := (blk_cell BK227.out 1).trans rfl
             have hcz47_2 : wc.cell? ⟨gb227, 2, none⟩ = some (.int .i64 0) := (blk_cell BK227.out 2).trans rfl
             have hcz47_3 : wc.cell? ⟨gb227, 3, none⟩ = some (.int .i64 0) := (blk_cell BK227.out 3).trans rfl
             have hfz47_0 := blk_frozen BK227.out 0
             have hfz47_1 := blk_frozen BK227.out 1
             have hfz47_2 := blk_frozen BK227.out 2
             have hfz47_3 := blk_frozen BK227.out 3
             go_wp2
             refine bodyPost_ret (results_ctt rfl _ _ gb227 31 #[.int .i64 2, .string (⟨#[]⟩ : ByteArray), .int .i64 x9_1, .int .i64 a1] (0, 0) _ rfl z40q9 Try.underlying31 rfl (by kernel_rfl)) rfl ?_
             exact ⟨by first | rfl | (simp [errW_none, errW_some] <;> rfl) | (simp [*, errW_none, errW_some] <;> rfl), by repeat (first | (with_reducible first | exact HB.out | apply below_alloc | apply pw_below_drewN | apply below_drew1 | refine below_set ?_ GE227.out) | exact HB.out)⟩
           next =>
            rw [if_neg c44] at H
            have c44b0 : ((wrap64 (bt a0 a1)) == 48) = false := beq_eq_false_iff_ne.mpr c44
            have c44b1 : ((wrap64 (bt a0 a1)) != 48) = true := bne_iff_ne.mpr c44
            simp only [Option.some.injEq, Prod.mk.injEq] at H
            obtain ⟨rfl, rfl, rfl, rfl, rfl, rfl⟩ := H
            have hcz48_0 : wc.cell? ⟨gb227, 0, none⟩ = some (.int .i64 0) := (blk_cell BK227.out 0).trans rfl
            have hcz48_1 : wc.cell? ⟨gb227, 1, none⟩ = some (.string (⟨#[]⟩ : ByteArray)) := (blk_cell BK227.out 1).trans rfl
            have hcz48_2 : wc.cell? ⟨gb227, 2, none⟩ = some (.int .i64 0) := (blk_cell BK227.out 2).trans rfl
            have hcz48_3 : wc.cell? ⟨gb227, 3, none⟩ = some (.int .i64 0) := (blk_cell BK227.out 3).trans rfl
            have hfz48_0 := blk_frozen BK227.out 0
            have hfz48_1 := blk_frozen BK227.out 1
            have hfz48_2 := blk_frozen BK227.out 2
            have hfz48_3 := blk_frozen BK227.out 3
            go_wp2
            refine bodyPost_ret (results_ctt rfl _ _ gb227 31 #[.int .i64 2, .string (⟨#[]⟩ : ByteArray), .int .i64 x9_1, .int .i64 a1] (0, 0) _ rfl z40q9 Try.underlying31 rfl (by kernel_rfl)) rfl ?_
            exact ⟨by first | rfl | (simp [errW_none, errW_some] <;> rfl) | (simp [*, errW_none, errW_some] <;> rfl), by repeat (first | (with_reducible first | exact HB.out | apply below_alloc | apply pw_below_drewN | apply below_drew1 | refine below_set ?_ GE227.out) | exact HB.out)⟩
    next =>
     replace c30 := Bool.eq_false_iff.mpr c30
     subst c30
     have H1 : (if (wrap64 (bt a0 a1)) = 123 then (if a1 ≤ (wrap64 (a1 + 1)) then (if (wrap64 (a1 + 1)) ≤ (a0.size : Int) then (some (3, a0.extract (a1 : Int).toNat ((wrap64 (a1 + 1)) : Int).toNat, 0, a1, wrap64 (a1 + 1), 0)) else (none)) else (none)) else (if (wrap64 (bt a0 a1)) = 125 then (if a1 ≤ (wrap64 (a1 + 1)) then (if (wrap64 (a1 + 1)) ≤ (a0.size : Int) then (some (3, a0.extract (a1 : Int).toNat ((wrap64 (a1 + 1)) : Int).toNat, 0, a1, wrap64 (a1 + 1), 0)) else (none)) else (none)) else (if (wrap64 (bt a0 a1)) = 61 then (if a1 ≤ (wrap64 (a1 + 1)) then (if (wrap64 (a1 + 1)) ≤ (a0.size : Int) then (some (3, a0.extract (a1 : Int).toNat ((wrap64 (a1 + 1)) : Int).toNat, 0, a1, wrap64 (a1 + 1), 0)) else (none)) else (none)) else (if (wrap64 (bt a0 a1)) = 59 then (if a1 ≤ (wrap64 (a1 + 1)) then (if (wrap64 (a1 + 1)) ≤ (a0.size : Int) then (some (3, a0.extract (a1 : Int).toNat ((wrap64 (a1 + 1)) : Int).toNat, 0, a1, wrap64 (a1 + 1), 0)) else (none)) else (none)) else (if (wrap64 (bt a0 a1)) = 44 then (if a1 ≤ (wrap64 (a1 + 1)) then (if (wrap64 (a1 + 1)) ≤ (a0.size : Int) then (some (3, a0.extract (a1 : Int).toNat ((wrap64 (a1 + 1)) : Int).toNat, 0, a1, wrap64 (a1 + 1), 0)) else (none)) else (none)) else (if (wrap64 (bt a0 a1)) = 46 then (if a1 ≤ (wrap64 (a1 + 1)) then (if (wrap64 (a1 + 1)) ≤ (a0.size : Int) then (some (3, a0.extract (a1 : Int).toNat ((wrap64 (a1 + 1)) : Int).toNat, 0, a1, wrap64 (a1 + 1), 0)) else (none)) else (none)) else (if (wrap64 (bt a0 a1)) = 45 then (if a1 ≤ (wrap64 (a1 + 1)) then (if (wrap64 (a1 + 1)) ≤ (a0.size : Int) then (some (3, a0.extract (a1 : Int).toNat ((wrap64 (a1 + 1)) : Int).toNat, 0, a1, wrap64 (a1 + 1), 0)) else (none)) else (none)) else (some (0, (⟨#[]⟩ : ByteArray), 0, 0, a1, 11))))))))) = some (r1, r2, r3, r4, r5, r6) := by rw [if_neg (show ¬ (false = true) by decide)] at H; exact H
     clear H
     have H := H1
     clear H1
     by_cases c49 : (wrap64 (bt a0 a1)) = 123
     next =>
      rw [if_pos c49] at H
      have c49b0 : ((wrap64 (bt a0 a1)) == 123) = true := beq_iff_eq.mpr c49
      have c49b1 : ((wrap64 (bt a0 a1)) != 123) = false := bne_eq_false_iff_eq.mpr c49
      clear c49
      have c50b0 := eq_true (of_decide_eq_true z40q7 : 0 ≤ a1)
      by_cases c51 : a1 ≤ (wrap64 (a1 + 1))
      next =>
       rw [if_pos c51] at H
       have c51b0 := eq_true c51
       have c51b1 : decide (a1 ≤ (wrap64 (a1 + 1))) = true := decide_eq_true c51
       by_cases c52 : (wrap64 (a1 + 1)) ≤ (a0.size : Int)
       next =>
        rw [if_pos c52] at H
        have c52b0 := eq_true c52
        have c52b1 : decide ((wrap64 (a1 + 1)) ≤ (a0.size : Int)) = true := decide_eq_true c52
        simp only [Option.some.injEq, Prod.mk.injEq] at H
        obtain ⟨rfl, rfl, rfl, rfl, rfl, rfl⟩ := H
        go_enter Try.func40, Try.ntmps40
        go_wp2_with (first | ((with_reducible refine gate_dst (N := 4) rfl ?_); refine box_event ?hg (N := 4) ?hd (cs := #[.int .i64 0, .string (⟨#[]⟩ : ByteArray), .int .i64 0, .int .i64 0]) (t := 31) ?hr ?_; (case hd => rfl); (case hg => rfl); (case hr => first | (go_simp; done) | (go_simp; rfl)); intro gb227 hg w53 hbox hb; have n0_ := Aside0.mk (below_step z40q3 hb); have n1_ := Aside0.mk (hbox); have n2_ := Aside0.mk ((z40q10 : w.heap.size ≤ gb227)); have n3_ := Aside0.mk ((z40q10 : w.heap.size ≤ gb227)); clear HB; have HB := n0_; have BK227 := n1_; have GW227 := n2_; have GE227 := n3_; clear n0_ n1_ n2_ n3_; clear hb hbox hg; have p5 : 0 ≤ (a1 : Int) := of_decide_eq_true z40q7; have q5 : a1 < (a0.size : Int) := of_decide_eq_true z40q7; have hx5 := bt_at a0 a1; replace p5 := eq_true p5; replace q5 := eq_true q5) | ((with_reducible refine gate_callee (f := 70) rfl ?_); refine goesL_ (some 17) rfl rfl Try.func70 (by kernel_rfl) rfl #[.int .i64 (wrap64 (bt a0 a1))] rfl z40q5 ?_; (with_reducible refine (spec_l3Letter.calls (wrap64 (bt a0 a1)) false _ A6.out).mono ?_); rintro e w' ⟨rfl, ⟨nd, rfl⟩⟩; refine ⟨_, rfl, ?_⟩; (try (rw [drewN_self w53]; generalize hq_ : World.drewN w53 _ = w53; have n0_ : Aside0 (w53.heap[gb227]? = some (.cells #[.int .i64 0, .string (⟨#[]⟩ : ByteArray), .int .i64 0, .int .i64 0] 31 (0, 0))) := ⟨by rw [← hq_]; exact z40q6⟩; have n1_ : Aside0 (Below w.heap.size w w53) := ⟨by rw [← hq_]; exact z40q4⟩; clear BK227 HB hq_; have BK227 := n0_; have HB := n1_; clear n0_ n1_))) | ((with_reducible refine gate_callee (f := 71) rfl ?_); refine goesL_ (some 53) rfl rfl Try.func71 (by kernel_rfl) rfl #[.int .i64 (wrap64 (bt a0 a1))] rfl z40q5 ?_; (with_reducible refine (spec_l3Digit.calls (wrap64 (bt a0 a1)) false _ A29.out).mono ?_); rintro e w' ⟨rfl, ⟨nd, rfl⟩⟩; refine ⟨_, rfl, ?_⟩; (try (rw [drewN_self w53]; generalize hq_ : World.drewN w53 _ = w53; have n0_ : Aside0 (w53.heap[gb227]? = some (.cells #[.int .i64 0, .string (⟨#[]⟩ : ByteArray), .int .i64 0, .int .i64 0] 31 (0, 0))) := ⟨by rw [← hq_]; exact z40q6⟩; have n1_ : Aside0 (Below w.heap.size w w53) := ⟨by rw [← hq_]; exact z40q4⟩; clear BK227 HB hq_; have BK227 := n0_; have HB := n1_; clear n0_ n1_)); have hcz54_0 : w53.cell? ⟨gb227, 0, none⟩ = some (.int .i64 0) := (blk_cell BK227.out 0).trans rfl; have hcz54_1 : w53.cell? ⟨gb227, 1, none⟩ = some (.string (⟨#[]⟩ : ByteArray)) := (blk_cell BK227.out 1).trans rfl; have hcz54_2 : w53.cell? ⟨gb227, 2, none⟩ = some (.int .i64 0) := (blk_cell BK227.out 2).trans rfl; have hcz54_3 : w53.cell? ⟨gb227, 3, none⟩ = some (.int .i64 0) := (blk_cell BK227.out 3).trans rfl; have hfz54_0 := blk_frozen BK227.out 0; have hfz54_1 := blk_frozen BK227.out 1; have hfz54_2 := blk_frozen BK227.out 2; have hfz54_3 := blk_frozen BK227.out 3))
        refine bodyPost_ret (results_ctt rfl _ _ gb227 31 #[.int .i64 3, .string (a0.extract (a1 : Int).toNat ((wrap64 (a1 + 1)) : Int).toNat), .int .i64 0, .int .i64 a1] (0, 0) _ rfl z40q1 Try.underlying31 rfl (by kernel_rfl)) rfl ?_
        exact ⟨by first | rfl | (simp [errW_none, errW_some] <;> rfl) | (simp [*, errW_none, errW_some] <;> rfl), by repeat (first | (with_reducible first | exact HB.out | apply below_alloc | apply pw_below_drewN | apply below_drew1 | refine below_set ?_ GE227.out) | exact HB.out)⟩
       next =>
        rw [if_neg c52] at H
        exact absurd H (by simp)
      next =>
       rw [if_neg c51] at H
       exact absurd H (by simp)
     next =>
      rw [if_neg c49] at H
      have c49b0 : ((wrap64 (bt a0 a1)) == 123) = false := beq_eq_false_iff_ne.mpr c49
      have c49b1 : ((wrap64 (bt a0 a1)) != 123) = true := bne_iff_ne.mpr c49
      by_cases c55 : (wrap64 (bt a0 a1)) = 125
      next =>
       rw [if_pos c55] at H
       have c55b0 : ((wrap64 (bt a0 a1)) == 125) = true := beq_iff_eq.mpr c55
       have c55b1 : ((wrap64 (bt a0 a1)) != 125) = false := bne_eq_false_iff_eq.mpr c55
       clear c55
       have c56b0 := eq_true (of_decide_eq_true z40q7 : 0 ≤ a1)
       by_cases c57 : a1 ≤ (wrap64 (a1 + 1))
       next =>
        rw [if_pos c57] at H
        have c57b0 := eq_true c57
        have c57b1 : decide (a1 ≤ (wrap64 (a1 + 1))) = true := decide_eq_true c57
        by_cases c58 : (wrap64 (a1 + 1)) ≤ (a0.size : Int)
        next =>
         rw [if_pos c58] at H
         have c58b0 := eq_true c58
         have c58b1 : decide ((wrap64 (a1 + 1)) ≤ (a0.size : Int)) = true := decide_eq_true c58
         simp only [Option.some.injEq, Prod.mk.injEq] at H
         obtain ⟨rfl, rfl, rfl, rfl, rfl, rfl⟩ := H
         go_enter Try.func40, Try.ntmps40
         go_wp2_with (first | ((with_reducible refine gate_dst (N := 4) rfl ?_); refine box_event ?hg (N := 4) ?hd (cs := #[.int .i64 0, .string (⟨#[]⟩ : ByteArray), .int .i64 0, .int .i64 0]) (t := 31) ?hr ?_; (case hd => rfl); (case hg => rfl); (case hr => first | (go_simp; done) | (go_simp; rfl)); intro gb227 hg w59 hbox hb; have n0_ := Aside0.mk (below_step z40q3 hb); have n1_ := Aside0.mk (hbox); have n2_ := Aside0.mk ((z40q10 : w.heap.size ≤ gb227)); have n3_ := Aside0.mk ((z40q10 : w.heap.size ≤ gb227)); clear HB; have HB := n0_; have BK227 := n1_; have GW227 := n2_; have GE227 := n3_; clear n0_ n1_ n2_ n3_; clear hb hbox hg; have p5 : 0 ≤ (a1 : Int) := of_decide_eq_true z40q7; have q5 : a1 < (a0.size : Int) := of_decide_eq_true z40q7; have hx5 := bt_at a0 a1; replace p5 := eq_true p5; replace q5 := eq_true q5) | ((with_reducible refine gate_callee (f := 70) rfl ?_); refine goesL_ (some 17) rfl rfl Try.func70 (by kernel_rfl) rfl #[.int .i64 (wrap64 (bt a0 a1))] rfl z40q5 ?_; (with_reducible refine (spec_l3Letter.calls (wrap64 (bt a0 a1)) false _ A6.out).mono ?_); rintro e w' ⟨rfl, ⟨nd, rfl⟩⟩; refine ⟨_, rfl, ?_⟩; (try (rw [drewN_self w59]; generalize hq_ : World.drewN w59 _ = w59; have n0_ : Aside0 (w59.heap[gb227]? = some (.cells #[.int .i64 0, .string (⟨#[]⟩ : ByteArray), .int .i64 0, .int .i64 0] 31 (0, 0))) := ⟨by rw [← hq_]; exact z40q6⟩; have n1_ : Aside0 (Below w.heap.size w w59) := ⟨by rw [← hq_]; exact z40q4⟩; clear BK227 HB hq_; have BK227 := n0_; have HB := n1_; clear n0_ n1_))) | ((with_reducible refine gate_callee (f := 71) rfl ?_); refine goesL_ (some 53) rfl rfl Try.func71 (by kernel_rfl) rfl #[.int .i64 (wrap64 (bt a0 a1))] rfl z40q5 ?_; (with_reducible refine (spec_l3Digit.calls (wrap64 (bt a0 a1)) false _ A29.out).mono ?_); rintro e w' ⟨rfl, ⟨nd, rfl⟩⟩; refine ⟨_, rfl, ?_⟩; (try (rw [drewN_self w59]; generalize hq_ : World.drewN w59 _ = w59; have n0_ : Aside0 (w59.heap[gb227]? = some (.cells #[.int .i64 0, .string (⟨#[]⟩ : ByteArray), .int .i64 0, .int .i64 0] 31 (0, 0))) := ⟨by rw [← hq_]; exact z40q6⟩; have n1_ : Aside0 (Below w.heap.size w w59) := ⟨by rw [← hq_]; exact z40q4⟩; clear BK227 HB hq_; have BK227 := n0_; have HB := n1_; clear n0_ n1_)); have hcz60_0 : w59.cell? ⟨gb227, 0, none⟩ = some (.int .i64 0) := (blk_cell BK227.out 0).trans rfl; have hcz60_1 : w59.cell? ⟨gb227, 1, none⟩ = some (.string (⟨#[]⟩ : ByteArray)) := (blk_cell BK227.out 1).trans rfl; have hcz60_2 : w59.cell? ⟨gb227, 2, none⟩ = some (.int .i64 0) := (blk_cell BK227.out 2).trans rfl; have hcz60_3 : w59.cell? ⟨gb227, 3, none⟩ = some (.int .i64 0) := (blk_cell BK227.out 3).trans rfl; have hfz60_0 := blk_frozen BK227.out 0; have hfz60_1 := blk_frozen BK227.out 1; have hfz60_2 := blk_frozen BK227.out 2; have hfz60_3 := blk_frozen BK227.out 3))
         refine bodyPost_ret (results_ctt rfl _ _ gb227 31 #[.int .i64 3, .string (a0.extract (a1 : Int).toNat ((wrap64 (a1 + 1)) : Int).toNat), .int .i64 0, .int .i64 a1] (0, 0) _ rfl z40q1 Try.underlying31 rfl (by kernel_rfl)) rfl ?_
         exact ⟨by first | rfl | (simp [errW_none, errW_some] <;> rfl) | (simp [*, errW_none, errW_some] <;> rfl), by repeat (first | (with_reducible first | exact HB.out | apply below_alloc | apply pw_below_drewN | apply below_drew1 | refine below_set ?_ GE227.out) | exact HB.out)⟩
        next =>
         rw [if_neg c58] at H
         exact absurd H (by simp)
       next =>
        rw [if_neg c57] at H
        exact absurd H (by simp)
      next =>
       rw [if_neg c55] at H
       have c55b0 : ((wrap64 (bt a0 a1)) == 125) = false := beq_eq_false_iff_ne.mpr c55
       have c55b1 : ((wrap64 (bt a0 a1)) != 125) = true := bne_iff_ne.mpr c55
       by_cases c61 : (wrap64 (bt a0 a1)) = 61
       next =>
        rw [if_pos c61] at H
        have c61b0 : ((wrap64 (bt a0 a1)) == 61) = true := beq_iff_eq.mpr c61
        have c61b1 : ((wrap64 (bt a0 a1)) != 61) = false := bne_eq_false_iff_eq.mpr c61
        clear c61
        have c62b0 := eq_true (of_decide_eq_true z40q7 : 0 ≤ a1)
        by_cases c63 : a1 ≤ (wrap64 (a1 + 1))
        next =>
         rw [if_pos c63] at H
         have c63b0 := eq_true c63
         have c63b1 : decide (a1 ≤ (wrap64 (a1 + 1))) = true := decide_eq_true c63
         by_cases c64 : (wrap64 (a1 + 1)) ≤ (a0.size : Int)
         next =>
          rw [if_pos c64] at H
          have c64b0 := eq_true c64
          have c64b1 : decide ((wrap64 (a1 + 1)) ≤ (a0.size : Int)) = true := decide_eq_true c64
          simp only [Option.some.injEq, Prod.mk.injEq] at H
          obtain ⟨rfl, rfl, rfl, rfl, rfl, rfl⟩ := H
          go_enter Try.func40, Try.ntmps40
          go_wp2_with (first | ((with_reducible refine gate_dst (N := 4) rfl ?_); refine box_event ?hg (N := 4) ?hd (cs := #[.int .i64 0, .string (⟨#[]⟩ : ByteArray), .int .i64 0, .int .i64 0]) (t := 31) ?hr ?_; (case hd => rfl); (case hg => rfl); (case hr => first | (go_simp; done) | (go_simp; rfl)); intro gb227 hg w65 hbox hb; have n0_ := Aside0.mk (below_step z40q3 hb); have n1_ := Aside0.mk (hbox); have n2_ := Aside0.mk ((z40q10 : w.heap.size ≤ gb227)); have n3_ := Aside0.mk ((z40q10 : w.heap.size ≤ gb227)); clear HB; have HB := n0_; have BK227 := n1_; have GW227 := n2_; have GE227 := n3_; clear n0_ n1_ n2_ n3_; clear hb hbox hg; have p5 : 0 ≤ (a1 : Int) := of_decide_eq_true z40q7; have q5 : a1 < (a0.size : Int) := of_decide_eq_true z40q7; have hx5 := bt_at a0 a1; replace p5 := eq_true p5; replace q5 := eq_true q5) | ((with_reducible refine gate_callee (f := 70) rfl ?_); refine goesL_ (some 17) rfl rfl Try.func70 (by kernel_rfl) rfl #[.int .i64 (wrap64 (bt a0 a1))] rfl z40q5 ?_; (with_reducible refine (spec_l3Letter.calls (wrap64 (bt a0 a1)) false _ A6.out).mono ?_); rintro e w' ⟨rfl, ⟨nd, rfl⟩⟩; refine ⟨_, rfl, ?_⟩; (try (rw [drewN_self w65]; generalize hq_ : World.drewN w65 _ = w65; have n0_ : Aside0 (w65.heap[gb227]? = some (.cells #[.int .i64 0, .string (⟨#[]⟩ : ByteArray), .int .i64 0, .int .i64 0] 31 (0, 0))) := ⟨by rw [← hq_]; exact z40q6⟩; have n1_ : Aside0 (Below w.heap.size w w65) := ⟨by rw [← hq_]; exact z40q4⟩; clear BK227 HB hq_; have BK227 := n0_; have HB := n1_; clear n0_ n1_))) | ((with_reducible refine gate_callee (f := 71) rfl ?_); refine goesL_ (some 53) rfl rfl Try.func71 (by kernel_rfl) rfl #[.int .i64 (wrap64 (bt a0 a1))] rfl z40q5 ?_; (with_reducible refine (spec_l3Digit.calls (wrap64 (bt a0 a1)) false _ A29.out).mono ?_); rintro e w' ⟨rfl, ⟨nd, rfl⟩⟩; refine ⟨_, rfl, ?_⟩; (try (rw [drewN_self w65]; generalize hq_ : World.drewN w65 _ = w65; have n0_ : Aside0 (w65.heap[gb227]? = some (.cells #[.int .i64 0, .string (⟨#[]⟩ : ByteArray), .int .i64 0, .int .i64 0] 31 (0, 0))) := ⟨by rw [← hq_]; exact z40q6⟩; have n1_ : Aside0 (Below w.heap.size w w65) := ⟨by rw [← hq_]; exact z40q4⟩; clear BK227 HB hq_; have BK227 := n0_; have HB := n1_; clear n0_ n1_)); have hcz66_0 : w65.cell? ⟨gb227, 0, none⟩ = some (.int .i64 0) := (blk_cell BK227.out 0).trans rfl; have hcz66_1 : w65.cell? ⟨gb227, 1, none⟩ = some (.string (⟨#[]⟩ : ByteArray)) := (blk_cell BK227.out 1).trans rfl; have hcz66_2 : w65.cell? ⟨gb227, 2, none⟩ = some (.int .i64 0) := (blk_cell BK227.out 2).trans rfl; have hcz66_3 : w65.cell? ⟨gb227, 3, none⟩ = some (.int .i64 0) := (blk_cell BK227.out 3).trans rfl; have hfz66_0 := blk_frozen BK227.out 0; have hfz66_1 := blk_frozen BK227.out 1; have hfz66_2 := blk_frozen BK227.out 2; have hfz66_3 := blk_frozen BK227.out 3))
          refine bodyPost_ret (results_ctt rfl _ _ gb227 31 #[.int .i64 3, .string (a0.extract (a1 : Int).toNat ((wrap64 (a1 + 1)) : Int).toNat), .int .i64 0, .int .i64 a1] (0, 0) _ rfl z40q1 Try.underlying31 rfl (by kernel_rfl)) rfl ?_
          exact ⟨by first | rfl | (simp [errW_none, errW_some] <;> rfl) | (simp [*, errW_none, errW_some] <;> rfl), by repeat (first | (with_reducible first | exact HB.out | apply below_alloc | apply pw_below_drewN | apply below_drew1 | refine below_set ?_ GE227.out) | exact HB.out)⟩
         next =>
          rw [if_neg c64] at H
          exact absurd H (by simp)
        next =>
         rw [if_neg c63] at H
         exact absurd H (by simp)
       next =>
        rw [if_neg c61] at H
        have c61b0 : ((wrap64 (bt a0 a1)) == 61) = false := beq_eq_false_iff_ne.mpr c61
        have c61b1 : ((wrap64 (bt a0 a1)) != 61) = true := bne_iff_ne.mpr c61
        by_cases c67 : (wrap64 (bt a0 a1)) = 59
        next =>
         rw [if_pos c67] at H
         have c67b0 : ((wrap64 (bt a0 a1)) == 59) = true := beq_iff_eq.mpr c67
         have c67b1 : ((wrap64 (bt a0 a1)) != 59) = false := bne_eq_false_iff_eq.mpr c67
         clear c67
         have c68b0 := eq_true (of_decide_eq_true z40q7 : 0 ≤ a1)
         by_cases c69 : a1 ≤ (wrap64 (a1 + 1))
         next =>
          rw [if_pos c69] at H
          have c69b0 := eq_true c69
          have c69b1 : decide (a1 ≤ (wrap64 (a1 + 1))) = true := decide_eq_true c69
          by_cases c70 : (wrap64 (a1 + 1)) ≤ (a0.size : Int)
          next =>
           rw [if_pos c70] at H
           have c70b0 := eq_true c70
           have c70b1 : decide ((wrap64 (a1 + 1)) ≤ (a0.size : Int)) = true := decide_eq_true c70
           simp only [Option.some.injEq, Prod.mk.injEq] at H
           obtain ⟨rfl, rfl, rfl, rfl, rfl, rfl⟩ := H
           go_enter Try.func40, Try.ntmps40
           go_wp2_with (first | ((with_reducible refine gate_dst (N := 4) rfl ?_); refine box_event ?hg (N := 4) ?hd (cs := #[.int .i64 0, .string (⟨#[]⟩ : ByteArray), .int .i64 0, .int .i64 0]) (t := 31) ?hr ?_; (case hd => rfl); (case hg => rfl); (case hr => first | (go_simp; done) | (go_simp; rfl)); intro gb227 hg w71 hbox hb; have n0_ := Aside0.mk (below_step z40q3 hb); have n1_ := Aside0.mk (hbox); have n2_ := Aside0.mk ((z40q10 : w.heap.size ≤ gb227)); have n3_ := Aside0.mk ((z40q10 : w.heap.size ≤ gb227)); clear HB; have HB := n0_; have BK227 := n1_; have GW227 := n2_; have GE227 := n3_; clear n0_ n1_ n2_ n3_; clear hb hbox hg; have p5 : 0 ≤ (a1 : Int) := of_decide_eq_true z40q7; have q5 : a1 < (a0.size : Int) := of_decide_eq_true z40q7; have hx5 := bt_at a0 a1; replace p5 := eq_true p5; replace q5 := eq_true q5) | ((with_reducible refine gate_callee (f := 70) rfl ?_); refine goesL_ (some 17) rfl rfl Try.func70 (by kernel_rfl) rfl #[.int .i64 (wrap64 (bt a0 a1))] rfl z40q5 ?_; (with_reducible refine (spec_l3Letter.calls (wrap64 (bt a0 a1)) false _ A6.out).mono ?_); rintro e w' ⟨rfl, ⟨nd, rfl⟩⟩; refine ⟨_, rfl, ?_⟩; (try (rw [drewN_self w71]; generalize hq_ : World.drewN w71 _ = w71; have n0_ : Aside0 (w71.heap[gb227]? = some (.cells #[.int .i64 0, .string (⟨#[]⟩ : ByteArray), .int .i64 0, .int .i64 0] 31 (0, 0))) := ⟨by rw [← hq_]; exact z40q6⟩; have n1_ : Aside0 (Below w.heap.size w w71) := ⟨by rw [← hq_]; exact z40q4⟩; clear BK227 HB hq_; have BK227 := n0_; have HB := n1_; clear n0_ n1_))) | ((with_reducible refine gate_callee (f := 71) rfl ?_); refine goesL_ (some 53) rfl rfl Try.func71 (by kernel_rfl) rfl #[.int .i64 (wrap64 (bt a0 a1))] rfl z40q5 ?_; (with_reducible refine (spec_l3Digit.calls (wrap64 (bt a0 a1)) false _ A29.out).mono ?_); rintro e w' ⟨rfl, ⟨nd, rfl⟩⟩; refine ⟨_, rfl, ?_⟩; (try (rw [drewN_self w71]; generalize hq_ : World.drewN w71 _ = w71; have n0_ : Aside0 (w71.heap[gb227]? = some (.cells #[.int .i64 0, .string (⟨#[]⟩ : ByteArray), .int .i64 0, .int .i64 0] 31 (0, 0))) := ⟨by rw [← hq_]; exact z40q6⟩; have n1_ : Aside0 (Below w.heap.size w w71) := ⟨by rw [← hq_]; exact z40q4⟩; clear BK227 HB hq_; have BK227 := n0_; have HB := n1_; clear n0_ n1_)); have hcz72_0 : w71.cell? ⟨gb227, 0, none⟩ = some (.int .i64 0) := (blk_cell BK227.out 0).trans rfl; have hcz72_1 : w71.cell? ⟨gb227, 1, none⟩ = some (.string (⟨#[]⟩ : ByteArray)) := (blk_cell BK227.out 1).trans rfl; have hcz72_2 : w71.cell? ⟨gb227, 2, none⟩ = some (.int .i64 0) := (blk_cell BK227.out 2).trans rfl; have hcz72_3 : w71.cell? ⟨gb227, 3, none⟩ = some (.int .i64 0) := (blk_cell BK227.out 3).trans rfl; have hfz72_0 := blk_frozen BK227.out 0; have hfz72_1 := blk_frozen BK227.out 1; have hfz72_2 := blk_frozen BK227.out 2; have hfz72_3 := blk_frozen BK227.out 3))
           refine bodyPost_ret (results_ctt rfl _ _ gb227 31 #[.int .i64 3, .string (a0.extract (a1 : Int).toNat ((wrap64 (a1 + 1)) : Int).toNat), .int .i64 0, .int .i64 a1] (0, 0) _ rfl z40q1 Try.underlying31 rfl (by kernel_rfl)) rfl ?_
           exact ⟨by first | rfl | (simp [errW_none, errW_some] <;> rfl) | (simp [*, errW_none, errW_some] <;> rfl), by repeat (first | (with_reducible first | exact HB.out | apply below_alloc | apply pw_below_drewN | apply below_drew1 | refine below_set ?_ GE227.out) | exact HB.out)⟩
          next =>
           rw [if_neg c70] at H
           exact absurd H (by simp)
         next =>
          rw [if_neg c69] at H
          exact absurd H (by simp)
        next =>
         rw [if_neg c67] at H
         have c67b0 : ((wrap64 (bt a0 a1)) == 59) = false := beq_eq_false_iff_ne.mpr c67
         have c67b1 : ((wrap64 (bt a0 a1)) != 59) = true := bne_iff_ne.mpr c67
         by_cases c73 : (wrap64 (bt a0 a1)) = 44
         next =>
          rw [if_pos c73] at H
          have c73b0 : ((wrap64 (bt a0 a1)) == 44) = true := beq_iff_eq.mpr c73
          have c73b1 : ((wrap64 (bt a0 a1)) != 44) = false := bne_eq_false_iff_eq.mpr c73
          clear c73
          have c74b0 := eq_true (of_decide_eq_true z40q7 : 0 ≤ a1)
          by_cases c75 : a1 ≤ (wrap64 (a1 + 1))
          next =>
           rw [if_pos c75] at H
           have c75b0 := eq_true c75
           have c75b1 : decide (a1 ≤ (wrap64 (a1 + 1))) = true := decide_eq_true c75
           by_cases c76 : (wrap64 (a1 + 1)) ≤ (a0.size : Int)
           next =>
            rw [if_pos c76] at H
            have c76b0 := eq_true c76
            have c76b1 : decide ((wrap64 (a1 + 1)) ≤ (a0.size : Int)) = true := decide_eq_true c76
            simp only [Option.some.injEq, Prod.mk.injEq] at H
            obtain ⟨rfl, rfl, rfl, rfl, rfl, rfl⟩ := H
            go_enter Try.func40, Try.ntmps40
            go_wp2_with (first | ((with_reducible refine gate_dst (N := 4) rfl ?_); refine box_event ?hg (N := 4) ?hd (cs := #[.int .i64 0, .string (⟨#[]⟩ : ByteArray), .int .i64 0, .int .i64 0]) (t := 31) ?hr ?_; (case hd => rfl); (case hg => rfl); (case hr => first | (go_simp; done) | (go_simp; rfl)); intro gb227 hg w77 hbox hb; have n0_ := Aside0.mk (below_step z40q3 hb); have n1_ := Aside0.mk (hbox); have n2_ := Aside0.mk ((z40q10 : w.heap.size ≤ gb227)); have n3_ := Aside0.mk ((z40q10 : w.heap.size ≤ gb227)); clear HB; have HB := n0_; have BK227 := n1_; have GW227 := n2_; have GE227 := n3_; clear n0_ n1_ n2_ n3_; clear hb hbox hg; have p5 : 0 ≤ (a1 : Int) := of_decide_eq_true z40q7; have q5 : a1 < (a0.size : Int) := of_decide_eq_true z40q7; have hx5 := bt_at a0 a1; replace p5 := eq_true p5; replace q5 := eq_true q5) | ((with_reducible refine gate_callee (f := 70) rfl ?_); refine goesL_ (some 17) rfl rfl Try.func70 (by kernel_rfl) rfl #[.int .i64 (wrap64 (bt a0 a1))] rfl z40q5 ?_; (with_reducible refine (spec_l3Letter.calls (wrap64 (bt a0 a1)) false _ A6.out).mono ?_); rintro e w' ⟨rfl, ⟨nd, rfl⟩⟩; refine ⟨_, rfl, ?_⟩; (try (rw [drewN_self w77]; generalize hq_ : World.drewN w77 _ = w77; have n0_ : Aside0 (w77.heap[gb227]? = some (.cells #[.int .i64 0, .string (⟨#[]⟩ : ByteArray), .int .i64 0, .int .i64 0] 31 (0, 0))) := ⟨by rw [← hq_]; exact z40q6⟩; have n1_ : Aside0 (Below w.heap.size w w77) := ⟨by rw [← hq_]; exact z40q4⟩; clear BK227 HB hq_; have BK227 := n0_; have HB := n1_; clear n0_ n1_))) | ((with_reducible refine gate_callee (f := 71) rfl ?_); refine goesL_ (some 53) rfl rfl Try.func71 (by kernel_rfl) rfl #[.int .i64 (wrap64 (bt a0 a1))] rfl z40q5 ?_; (with_reducible refine (spec_l3Digit.calls (wrap64 (bt a0 a1)) false _ A29.out).mono ?_); rintro e w' ⟨rfl, ⟨nd, rfl⟩⟩; refine ⟨_, rfl, ?_⟩; (try (rw [drewN_self w77]; generalize hq_ : World.drewN w77 _ = w77; have n0_ : Aside0 (w77.heap[gb227]? = some (.cells #[.int .i64 0, .string (⟨#[]⟩ : ByteArray), .int .i64 0, .int .i64 0] 31 (0, 0))) := ⟨by rw [← hq_]; exact z40q6⟩; have n1_ : Aside0 (Below w.heap.size w w77) := ⟨by rw [← hq_]; exact z40q4⟩; clear BK227 HB hq_; have BK227 := n0_; have HB := n1_; clear n0_ n1_)); have hcz78_0 : w77.cell? ⟨gb227, 0, none⟩ = some (.int .i64 0) := (blk_cell BK227.out 0).trans rfl; have hcz78_1 : w77.cell? ⟨gb227, 1, none⟩ = some (.string (⟨#[]⟩ : ByteArray)) := (blk_cell BK227.out 1).trans rfl; have hcz78_2 : w77.cell? ⟨gb227, 2, none⟩ = some (.int .i64 0) := (blk_cell BK227.out 2).trans rfl; have hcz78_3 : w77.cell? ⟨gb227, 3, none⟩ = some (.int .i64 0) := (blk_cell BK227.out 3).trans rfl; have hfz78_0 := blk_frozen BK227.out 0; have hfz78_1 := blk_frozen BK227.out 1; have hfz78_2 := blk_frozen BK227.out 2; have hfz78_3 := blk_frozen BK227.out 3))
            refine bodyPost_ret (results_ctt rfl _ _ gb227 31 #[.int .i64 3, .string (a0.extract (a1 : Int).toNat ((wrap64 (a1 + 1)) : Int).toNat), .int .i64 0, .int .i64 a1] (0, 0) _ rfl z40q1 Try.underlying31 rfl (by kernel_rfl)) rfl ?_
            exact ⟨by first | rfl | (simp [errW_none, errW_some] <;> rfl) | (simp [*, errW_none, errW_some] <;> rfl), by repeat (first | (with_reducible first | exact HB.out | apply below_alloc | apply pw_below_drewN | apply below_drew1 | refine below_set ?_ GE227.out) | exact HB.out)⟩
           next =>
            rw [if_neg c76] at H
            exact absurd H (by simp)
          next =>
           rw [if_neg c75] at H
           exact absurd H (by simp)
         next =>
          rw [if_neg c73] at H
          have c73b0 : ((wrap64 (bt a0 a1)) == 44) = false := beq_eq_false_iff_ne.mpr c73
          have c73b1 : ((wrap64 (bt a0 a1)) != 44) = true := bne_iff_ne.mpr c73
          by_cases c79 : (wrap64 (bt a0 a1)) = 46
          next =>
           rw [if_pos c79] at H
           have c79b0 : ((wrap64 (bt a0 a1)) == 46) = true := beq_iff_eq.mpr c79
           have c79b1 : ((wrap64 (bt a0 a1)) != 46) = false := bne_eq_false_iff_eq.mpr c79
           clear c79
           have c80b0 := eq_true (of_decide_eq_true z40q7 : 0 ≤ a1)
           by_cases c81 : a1 ≤ (wrap64 (a1 + 1))
           next =>
            rw [if_pos c81] at H
            have c81b0 := eq_true c81
            have c81b1 : decide (a1 ≤ (wrap64 (a1 + 1))) = true := decide_eq_true c81
            by_cases c82 : (wrap64 (a1 + 1)) ≤ (a0.size : Int)
            next =>
             rw [if_pos c82] at H
             have c82b0 := eq_true c82
             have c82b1 : decide ((wrap64 (a1 + 1)) ≤ (a0.size : Int)) = true := decide_eq_true c82
             simp only [Option.some.injEq, Prod.mk.injEq] at H
             obtain ⟨rfl, rfl, rfl, rfl, rfl, rfl⟩ := H
             go_enter Try.func40, Try.ntmps40
             go_wp2_with (first | ((with_reducible refine gate_dst (N := 4) rfl ?_); refine box_event ?hg (N := 4) ?hd (cs := #[.int .i64 0, .string (⟨#[]⟩ : ByteArray), .int .i64 0, .int .i64 0]) (t := 31) ?hr ?_; (case hd => rfl); (case hg => rfl); (case hr => first | (go_simp; done) | (go_simp; rfl)); intro gb227 hg w83 hbox hb; have n0_ := Aside0.mk (below_step z40q3 hb); have n1_ := Aside0.mk (hbox); have n2_ := Aside0.mk ((z40q10 : w.heap.size ≤ gb227)); have n3_ := Aside0.mk ((z40q10 : w.heap.size ≤ gb227)); clear HB; have HB := n0_; have BK227 := n1_; have GW227 := n2_; have GE227 := n3_; clear n0_ n1_ n2_ n3_; clear hb hbox hg; have p5 : 0 ≤ (a1 : Int) := of_decide_eq_true z40q7; have q5 : a1 < (a0.size : Int) := of_decide_eq_true z40q7; have hx5 := bt_at a0 a1; replace p5 := eq_true p5; replace q5 := eq_true q5) | ((with_reducible refine gate_callee (f := 70) rfl ?_); refine goesL_ (some 17) rfl rfl Try.func70 (by kernel_rfl) rfl #[.int .i64 (wrap64 (bt a0 a1))] rfl z40q5 ?_; (with_reducible refine (spec_l3Letter.calls (wrap64 (bt a0 a1)) false _ A6.out).mono ?_); rintro e w' ⟨rfl, ⟨nd, rfl⟩⟩; refine ⟨_, rfl, ?_⟩; (try (rw [drewN_self w83]; generalize hq_ : World.drewN w83 _ = w83; have n0_ : Aside0 (w83.heap[gb227]? = some (.cells #[.int .i64 0, .string (⟨#[]⟩ : ByteArray), .int .i64 0, .int .i64 0] 31 (0, 0))) := ⟨by rw [← hq_]; exact z40q6⟩; have n1_ : Aside0 (Below w.heap.size w w83) := ⟨by rw [← hq_]; exact z40q4⟩; clear BK227 HB hq_; have BK227 := n0_; have HB := n1_; clear n0_ n1_))) | ((with_reducible refine gate_callee (f := 71) rfl ?_); refine goesL_ (some 53) rfl rfl Try.func71 (by kernel_rfl) rfl #[.int .i64 (wrap64 (bt a0 a1))] rfl z40q5 ?_; (with_reducible refine (spec_l3Digit.calls (wrap64 (bt a0 a1)) false _ A29.out).mono ?_); rintro e w' ⟨rfl, ⟨nd, rfl⟩⟩; refine ⟨_, rfl, ?_⟩; (try (rw [drewN_self w83]; generalize hq_ : World.drewN w83 _ = w83; have n0_ : Aside0 (w83.heap[gb227]? = some (.cells #[.int .i64 0, .string (⟨#[]⟩ : ByteArray), .int .i64 0, .int .i64 0] 31 (0, 0))) := ⟨by rw [← hq_]; exact z40q6⟩; have n1_ : Aside0 (Below w.heap.size w w83) := ⟨by rw [← hq_]; exact z40q4⟩; clear BK227 HB hq_; have BK227 := n0_; have HB := n1_; clear n0_ n1_)); have hcz84_0 : w83.cell? ⟨gb227, 0, none⟩ = some (.int .i64 0) := (blk_cell BK227.out 0).trans rfl; have hcz84_1 : w83.cell? ⟨gb227, 1, none⟩ = some (.string (⟨#[]⟩ : ByteArray)) := (blk_cell BK227.out 1).trans rfl; have hcz84_2 : w83.cell? ⟨gb227, 2, none⟩ = some (.int .i64 0) := (blk_cell BK227.out 2).trans rfl; have hcz84_3 : w83.cell? ⟨gb227, 3, none⟩ = some (.int .i64 0) := (blk_cell BK227.out 3).trans rfl; have hfz84_0 := blk_frozen BK227.out 0; have hfz84_1 := blk_frozen BK227.out 1; have hfz84_2 := blk_frozen BK227.out 2; have hfz84_3 := blk_frozen BK227.out 3))
             refine bodyPost_ret (results_ctt rfl _ _ gb227 31 #[.int .i64 3, .string (a0.extract (a1 : Int).toNat ((wrap64 (a1 + 1)) : Int).toNat), .int .i64 0, .int .i64 a1] (0, 0) _ rfl z40q1 Try.underlying31 rfl (by kernel_rfl)) rfl ?_
             exact ⟨by first | rfl | (simp [errW_none, errW_some] <;> rfl) | (simp [*, errW_none, errW_some] <;> rfl), by repeat (first | (with_reducible first | exact HB.out | apply below_alloc | apply pw_below_drewN | apply below_drew1 | refine below_set ?_ GE227.out) | exact HB.out)⟩
            next =>
             rw [if_neg c82] at H
             exact absurd H (by simp)
           next =>
            rw [if_neg c81] at H
            exact absurd H (by simp)
          next =>
           rw [if_neg c79] at H
           have c79b0 : ((wrap64 (bt a0 a1)) == 46) = false := beq_eq_false_iff_ne.mpr c79
           have c79b1 : ((wrap64 (bt a0 a1)) != 46) = true := bne_iff_ne.mpr c79
           by_cases c85 : (wrap64 (bt a0 a1)) = 45
           next =>
            rw [if_pos c85] at H
            have c85b0 : ((wrap64 (bt a0 a1)) == 45) = true := beq_iff_eq.mpr c85
            have c85b1 : ((wrap64 (bt a0 a1)) != 45) = false := bne_eq_false_iff_eq.mpr c85
            clear c85
            have c86b0 := eq_true (of_decide_eq_true z40q7 : 0 ≤ a1)
            by_cases c87 : a1 ≤ (wrap64 (a1 + 1))
            next =>
             rw [if_pos c87] at H
             have c87b0 := eq_true c87
             have c87b1 : decide (a1 ≤ (wrap64 (a1 + 1))) = true := decide_eq_true c87
             by_cases c88 : (wrap64 (a1 + 1)) ≤ (a0.size : Int)
             next =>
              rw [if_pos c88] at H
              have c88b0 := eq_true c88
              have c88b1 : decide ((wrap64 (a1 + 1)) ≤ (a0.size : Int)) = true := decide_eq_true c88
              simp only [Option.some.injEq, Prod.mk.injEq] at H
              obtain ⟨rfl, rfl, rfl, rfl, rfl, rfl⟩ := H
              go_enter Try.func40, Try.ntmps40
              go_wp2_with (first | ((with_reducible refine gate_dst (N := 4) rfl ?_); refine box_event ?hg (N := 4) ?hd (cs := #[.int .i64 0, .string (⟨#[]⟩ : ByteArray), .int .i64 0, .int .i64 0]) (t := 31) ?hr ?_; (case hd => rfl); (case hg => rfl); (case hr => first | (go_simp; done) | (go_simp; rfl)); intro gb227 hg w89 hbox hb; have n0_ := Aside0.mk (below_step z40q3 hb); have n1_ := Aside0.mk (hbox); have n2_ := Aside0.mk ((z40q10 : w.heap.size ≤ gb227)); have n3_ := Aside0.mk ((z40q10 : w.heap.size ≤ gb227)); clear HB; have HB := n0_; have BK227 := n1_; have GW227 := n2_; have GE227 := n3_; clear n0_ n1_ n2_ n3_; clear hb hbox hg; have p5 : 0 ≤ (a1 : Int) := of_decide_eq_true z40q7; have q5 : a1 < (a0.size : Int) := of_decide_eq_true z40q7; have hx5 := bt_at a0 a1; replace p5 := eq_true p5; replace q5 := eq_true q5) | ((with_reducible refine gate_callee (f := 70) rfl ?_); refine goesL_ (some 17) rfl rfl Try.func70 (by kernel_rfl) rfl #[.int .i64 (wrap64 (bt a0 a1))] rfl z40q5 ?_; (with_reducible refine (spec_l3Letter.calls (wrap64 (bt a0 a1)) false _ A6.out).mono ?_); rintro e w' ⟨rfl, ⟨nd, rfl⟩⟩; refine ⟨_, rfl, ?_⟩; (try (rw [drewN_self w89]; generalize hq_ : World.drewN w89 _ = w89; have n0_ : Aside0 (w89.heap[gb227]? = some (.cells #[.int .i64 0, .string (⟨#[]⟩ : ByteArray), .int .i64 0, .int .i64 0] 31 (0, 0))) := ⟨by rw [← hq_]; exact z40q6⟩; have n1_ : Aside0 (Below w.heap.size w w89) := ⟨by rw [← hq_]; exact z40q4⟩; clear BK227 HB hq_; have BK227 := n0_; have HB := n1_; clear n0_ n1_))) | ((with_reducible refine gate_callee (f := 71) rfl ?_); refine goesL_ (some 53) rfl rfl Try.func71 (by kernel_rfl) rfl #[.int .i64 (wrap64 (bt a0 a1))] rfl z40q5 ?_; (with_reducible refine (spec_l3Digit.calls (wrap64 (bt a0 a1)) false _ A29.out).mono ?_); rintro e w' ⟨rfl, ⟨nd, rfl⟩⟩; refine ⟨_, rfl, ?_⟩; (try (rw [drewN_self w89]; generalize hq_ : World.drewN w89 _ = w89; have n0_ : Aside0 (w89.heap[gb227]? = some (.cells #[.int .i64 0, .string (⟨#[]⟩ : ByteArray), .int .i64 0, .int .i64 0] 31 (0, 0))) := ⟨by rw [← hq_]; exact z40q6⟩; have n1_ : Aside0 (Below w.heap.size w w89) := ⟨by rw [← hq_]; exact z40q4⟩; clear BK227 HB hq_; have BK227 := n0_; have HB := n1_; clear n0_ n1_)); have hcz90_0 : w89.cell? ⟨gb227, 0, none⟩ = some (.int .i64 0) := (blk_cell BK227.out 0).trans rfl; have hcz90_1 : w89.cell? ⟨gb227, 1, none⟩ = some (.string (⟨#[]⟩ : ByteArray)) := (blk_cell BK227.out 1).trans rfl; have hcz90_2 : w89.cell? ⟨gb227, 2, none⟩ = some (.int .i64 0) := (blk_cell BK227.out 2).trans rfl; have hcz90_3 : w89.cell? ⟨gb227, 3, none⟩ = some (.int .i64 0) := (blk_cell BK227.out 3).trans rfl; have hfz90_0 := blk_frozen BK227.out 0; have hfz90_1 := blk_frozen BK227.out 1; have hfz90_2 := blk_frozen BK227.out 2; have hfz90_3 := blk_frozen BK227.out 3))
              refine bodyPost_ret (results_ctt rfl _ _ gb227 31 #[.int .i64 3, .string (a0.extract (a1 : Int).toNat ((wrap64 (a1 + 1)) : Int).toNat), .int .i64 0, .int .i64 a1] (0, 0) _ rfl z40q1 Try.underlying31 rfl (by kernel_rfl)) rfl ?_
              exact ⟨by first | rfl | (simp [errW_none, errW_some] <;> rfl) | (simp [*, errW_none, errW_some] <;> rfl), by repeat (first | (with_reducible first | exact HB.out | apply below_alloc | apply pw_below_drewN | apply below_drew1 | refine below_set ?_ GE227.out) | exact HB.out)⟩
             next =>
              rw [if_neg c88] at H
              exact absurd H (by simp)
            next =>
             rw [if_neg c87] at H
             exact absurd H (by simp)
           next =>
            rw [if_neg c85] at H
            have c85b0 : ((wrap64 (bt a0 a1)) == 45) = false := beq_eq_false_iff_ne.mpr c85
            have c85b1 : ((wrap64 (bt a0 a1)) != 45) = true := bne_iff_ne.mpr c85
            simp only [Option.some.injEq, Prod.mk.injEq] at H
            obtain ⟨rfl, rfl, rfl, rfl, rfl, rfl⟩ := H
            go_enter Try.func40, Try.ntmps40
            go_wp2_with (first | ((with_reducible refine gate_dst (N := 4) rfl ?_); refine box_event ?hg (N := 4) ?hd (cs := #[.int .i64 0, .string (⟨#[]⟩ : ByteArray), .int .i64 0, .int .i64 0]) (t := 31) ?hr ?_; (case hd => rfl); (case hg => rfl); (case hr => first | (go_simp; done) | (go_simp; rfl)); intro gb227 hg w91 hbox hb; have n0_ := Aside0.mk (below_step z40q3 hb); have n1_ := Aside0.mk (hbox); have n2_ := Aside0.mk ((z40q10 : w.heap.size ≤ gb227)); have n3_ := Aside0.mk ((z40q10 : w.heap.size ≤ gb227)); clear HB; have HB := n0_; have BK227 := n1_; have GW227 := n2_; have GE227 := n3_; clear n0_ n1_ n2_ n3_; clear hb hbox hg; have p5 : 0 ≤ (a1 : Int) := of_decide_eq_true z40q7; have q5 : a1 < (a0.size : Int) := of_decide_eq_true z40q7; have hx5 := bt_at a0 a1; replace p5 := eq_true p5; replace q5 := eq_true q5) | ((with_reducible refine gate_callee (f := 70) rfl ?_); refine goesL_ (some 17) rfl rfl Try.func70 (by kernel_rfl) rfl #[.int .i64 (wrap64 (bt a0 a1))] rfl z40q5 ?_; (with_reducible refine (spec_l3Letter.calls (wrap64 (bt a0 a1)) false _ A6.out).mono ?_); rintro e w' ⟨rfl, ⟨nd, rfl⟩⟩; refine ⟨_, rfl, ?_⟩; (try (rw [drewN_self w91]; generalize hq_ : World.drewN w91 _ = w91; have n0_ : Aside0 (w91.heap[gb227]? = some (.cells #[.int .i64 0, .string (⟨#[]⟩ : ByteArray), .int .i64 0, .int .i64 0] 31 (0, 0))) := ⟨by rw [← hq_]; exact z40q6⟩; have n1_ : Aside0 (Below w.heap.size w w91) := ⟨by rw [← hq_]; exact z40q4⟩; clear BK227 HB hq_; have BK227 := n0_; have HB := n1_; clear n0_ n1_))) | ((with_reducible refine gate_callee (f := 71) rfl ?_); refine goesL_ (some 53) rfl rfl Try.func71 (by kernel_rfl) rfl #[.int .i64 (wrap64 (bt a0 a1))] rfl z40q5 ?_; (with_reducible refine (spec_l3Digit.calls (wrap64 (bt a0 a1)) false _ A29.out).mono ?_); rintro e w' ⟨rfl, ⟨nd, rfl⟩⟩; refine ⟨_, rfl, ?_⟩; (try (rw [drewN_self w91]; generalize hq_ : World.drewN w91 _ = w91; have n0_ : Aside0 (w91.heap[gb227]? = some (.cells #[.int .i64 0, .string (⟨#[]⟩ : ByteArray), .int .i64 0, .int .i64 0] 31 (0, 0))) := ⟨by rw [← hq_]; exact z40q6⟩; have n1_ : Aside0 (Below w.heap.size w w91) := ⟨by rw [← hq_]; exact z40q4⟩; clear BK227 HB hq_; have BK227 := n0_; have HB := n1_; clear n0_ n1_)); have hcz92_0 : w91.cell? ⟨gb227, 0, none⟩ = some (.int .i64 0) := (blk_cell BK227.out 0).trans rfl; have hcz92_1 : w91.cell? ⟨gb227, 1, none⟩ = some (.string (⟨#[]⟩ : ByteArray)) := (blk_cell BK227.out 1).trans rfl; have hcz92_2 : w91.cell? ⟨gb227, 2, none⟩ = some (.int .i64 0) := (blk_cell BK227.out 2).trans rfl; have hcz92_3 : w91.cell? ⟨gb227, 3, none⟩ = some (.int .i64 0) := (blk_cell BK227.out 3).trans rfl; have hfz92_0 := blk_frozen BK227.out 0; have hfz92_1 := blk_frozen BK227.out 1; have hfz92_2 := blk_frozen BK227.out 2; have hfz92_3 := blk_frozen BK227.out 3))
            refine bodyPost_ret (results_ctt rfl _ _ gb227 31 #[.int .i64 0, .string (⟨#[]⟩ : ByteArray), .int .i64 0, .int .i64 0] (0, 0) _ rfl z40q2 Try.underlying31 rfl (by kernel_rfl)) rfl ?_
            exact ⟨by first | rfl | (simp [errW_none, errW_some] <;> rfl) | (simp [*, errW_none, errW_some] <;> rfl), by repeat (first | (with_reducible first | exact HB.out | apply below_alloc | apply pw_below_drewN | apply below_drew1 | refine below_set ?_ GE227.out) | exact HB.out)⟩
  next =>
   rw [if_neg c4] at H
   exact absurd H (by simp)
 next =>
  rw [if_neg c3] at H
  exact absurd H (by simp)

end Go.Proofs.Ytnchbgiojdijbaa.PFnWords
