/- The functions that FnExactNarrow reaches as Lean functions, each with its contract: laid by a program of this session (wip/print2.py) over the kit's print. -/
import Derived.Test.YtmmdkjihigadcaaPFnExactNarrowx0
namespace Go.Proofs.Ytmmdkjihigadcaa.PFnExactNarrow
open Go.RowKit Go.Proofs.YtmmdkjihigadcaaW.PrintWords Go.Proofs.YtmmdkjihigadcaaW.PrintLast Go.Proofs.YtmmdkjihigadcaaW.PrintMore
attribute [local go_sem] max2_int min2_int max_two min_two max_three min_three max_four min_four   -- for this text's walks alone
set_option linter.unusedVariables false
set_option linter.unusedSimpArgs false

/-! ### spec_l1In: function 71 -/
def spec_l1In.f (a0 : Int) (a1 : Int) (a2 : Int) : Option (Bool) := if a0 ≥ a1 then (some (decide (a0 ≤ a2))) else (some false)
set_option maxHeartbeats 8000000 in
set_option maxRecDepth 100000 in
theorem spec_l1In.calls (a0 : Int) (a1 : Int) (a2 : Int) (r : Bool) (w : World) (h : spec_l1In.f a0 a1 a2 = some r) :
    Calls Try.prog 71 #[.int .i64 a0, .int .i64 a1, .int .i64 a2] w fun e w' => e = .returned (.bool r) ∧ Drawn0 w w' := by
  have H : (if a0 ≥ a1 then (some (decide (a0 ≤ a2))) else (some false)) = some r := h
  clear h
  by_cases c4 : a0 ≥ a1
  · rw [if_pos c4] at H
    have c4b0 : decide (a1 ≤ a0) = true := decide_eq_true c4
    clear c4
    obtain rfl := Option.some.inj H
    go_enter Try.func71, Try.ntmps71
    go_wp2
    go_ret
    exact ⟨by first | rfl | (simp; done) | (simp [*]; done), by repeat (first | exact Drawn0.refl _ | apply Drawn0.step)⟩
  · rw [if_neg c4] at H
    have c4b0 : decide (a1 ≤ a0) = false := decide_eq_false c4
    clear c4
    obtain rfl := Option.some.inj H
    go_enter Try.func71, Try.ntmps71
    go_wp2
    go_ret
    exact ⟨by first | rfl | (simp; done) | (simp [*]; done), by repeat (first | exact Drawn0.refl _ | apply Drawn0.step)⟩

/-! ### spec_l2Parts: function 48 -/
def spec_l2Parts.j0 : Nat → Int → Int → Bool → Option (Int × Int × Int × Int × Bool)
  | 0, _, _, _ => none
  | k + 1, x0, x1, x10 => if x10 = true then (some (x0 / 2147483648, Go.bits .and .i64 (x0 / 8388608) 255, Go.bits .and .i64 x0 8388607, 255, true)) else (if x1 = 64 then (some (wrap64 ((IntKind.u64.wrap (x0)) / 9223372036854775808), wrap64 (Go.bits .and .u64 ((IntKind.u64.wrap (x0)) / 4503599627370496) 2047), wrap64 (Go.bits .and .u64 (IntKind.u64.wrap (x0)) 4503599627370495), 2047, true)) else (some (0, 0, 0, 0, false)))
def spec_l2Parts.f (k : Nat) (a0 : Int) (a1 : Int) : Option (Int × Int × Int × Int × Bool) := if a1 = 32 then ((spec_l1In.f a0 0 4294967295).bind fun t101 => (spec_l2Parts.j0 k a0 a1 t101)) else (spec_l2Parts.j0 k a0 a1 false)
theorem spec_l2Parts.mono_l : ∀ k, (∀ y0 y1 y2, LeO (spec_l2Parts.j0 k y0 y1 y2) (spec_l2Parts.j0 (k + 1) y0 y1 y2))
  | 0 => fun _ _ _ r h => by simp [spec_l2Parts.j0] at h
  | k + 1 => by
    have ih0 := spec_l2Parts.mono_l k
    · intro y0 y1 y2
      unfold spec_l2Parts.j0
      repeat' first
      | (with_reducible exact ih0 _ _ _)
      | (with_reducible exact LeO.refl _)
      | (with_reducible exact LeO.none _)
      | (with_reducible refine LeO.ite ?_ ?_)
      | (with_reducible refine LeO.bind ?_ (fun _ => ?_))
      | exact ih0 _ _ _
      | exact LeO.none _
      | refine LeO.ite ?_ ?_
      | refine LeO.bind ?_ (fun _ => ?_)
theorem spec_l2Parts.mono : ∀ a0 a1 k, LeO (spec_l2Parts.f k a0 a1) (spec_l2Parts.f (k + 1) a0 a1) := by
  intro a0 a1 k
  have ih0 := spec_l2Parts.mono_l k
  unfold spec_l2Parts.f
  repeat' first
      | (with_reducible exact ih0 _ _ _)
      | (with_reducible exact LeO.refl _)
      | (with_reducible exact LeO.none _)
      | (with_reducible refine LeO.ite ?_ ?_)
      | (with_reducible refine LeO.bind ?_ (fun _ => ?_))
      | exact ih0 _ _ _
      | exact LeO.none _
      | refine LeO.ite ?_ ?_
      | refine LeO.bind ?_ (fun _ => ?_)
set_option maxHeartbeats 8000000 in
set_option maxRecDepth 100000 in
theorem spec_l2Parts.calls (k : Nat) (a0 : Int) (a1 : Int) (r1 : Int) (r2 : Int) (r3 : Int) (r4 : Int) (r5 : Bool) (w : World) (h : spec_l2Parts.f k a0 a1 = some (r1, r2, r3, r4, r5)) :
    Calls Try.prog 48 #[.int .i64 a0, .int .i64 a1] w fun e w' => e = .returned (.tuple #[.int .i64 r1, .int .i64 r2, .int .i64 r3, .int .i64 r4, .bool r5]) ∧ Drawn0 w w' := by
  have H : (if a1 = 32 then ((spec_l1In.f a0 0 4294967295).bind fun t101 => (spec_l2Parts.j0 k a0 a1 t101)) else (spec_l2Parts.j0 k a0 a1 false)) = some (r1, r2, r3, r4, r5) := h
  clear h
  have HC3 := Aside0.mk H
  clear H
  go_enter Try.func48, Try.ntmps48
  go_upto_region 1 with (fail)
  go_cut [10] (fun v10 wc => ∃ (kq : Nat) (x10_2 : Bool), v10 = .bool x10_2 ∧ Aside0 (spec_l2Parts.j0 kq a0 a1 x10_2 = some (r1, r2, r3, r4, r5)) ∧ Aside0 (kq ≤ k) ∧ Drawn0 w wc)
  case first =>
    have H := HC3.out
    clear HC3
    by_cases c4 : a1 = 32
    · rw [if_pos c4] at H
      have c4b0 : (a1 == 32) = true := beq_iff_eq.mpr c4
      have c4b1 : (a1 != 32) = false := bne_eq_false_iff_eq.mpr c4
      clear c4
      (first | rw [c4b0] | (simp only [i64_w, i32_w]; rw [c4b0]) | skip)
      replace H := Option.bind_eq_some_iff.mp H
      obtain ⟨t101, A50, H⟩ := H
      replace H : (spec_l2Parts.j0 k a0 a1 t101) = some (r1, r2, r3, r4, r5) := H
      have A5 := Aside0.mk A50
      clear A50
      have H' := Aside0.mk H
      clear H
      go_wp2_with (first | (go_at_call 71; (with_reducible refine (spec_l1In.calls a0 0 4294967295 t101 _ A5.out).mono ?_); rintro e w' ⟨rfl, ⟨nd, rfl⟩⟩))
      go_meet
      case rel => exact ⟨_, (t101), (by first | rfl | (simp; done) | (simp [*]; done)), H', ⟨by first | omega | exact Nat.le_refl _⟩, by repeat (first | exact Drawn0.refl _ | apply Drawn0.step)⟩
    · rw [if_neg c4] at H
      have c4b0 : (a1 == 32) = false := beq_eq_false_iff_ne.mpr c4
      have c4b1 : (a1 != 32) = true := bne_iff_ne.mpr c4
      (first | rw [c4b0] | (simp only [i64_w, i32_w]; rw [c4b0]) | skip)
      have H' := Aside0.mk H
      clear H
      go_wp2
      go_meet
      case rel => exact ⟨_, (false), (by first | rfl | (simp; done) | (simp [*]; done)), H', ⟨by first | omega | exact Nat.le_refl _⟩, by repeat (first | exact Drawn0.refl _ | apply Drawn0.step)⟩
  case rest =>
    clear HC3
    try clear p2
    try clear c4
    try clear c4b0
    try clear c4b1
    obtain ⟨kq, x10_2, rfl, HA, HJ2, ⟨mc2, rfl⟩⟩ := hcut
    cases kq with
    | zero => exact absurd HA.out (by simp [spec_l2Parts.j0])
    | succ kj2 =>
      have H := HA.out
      clear HA
      simp only [spec_l2Parts.j0] at H
      by_cases c6 : x10_2 = true
      · subst c6
        have H1 : (some (a0 / 2147483648, Go.bits .and .i64 (a0 / 8388608) 255, Go.bits .and .i64 a0 8388607, 255, true)) = some (r1, r2, r3, r4, r5) := by rw [if_pos rfl] at H; exact H
        clear H
        have H := H1
        clear H1
        simp only [Option.some.injEq, Prod.mk.injEq] at H
        obtain ⟨rfl, rfl, rfl, rfl, rfl⟩ := H
        go_wp2
        refine bodyPost_ret (results_list (rs := [.tmp 4, .tmp 5, .tmp 6, .tmp 7, .tmp 8]) rfl (by simp) (.tmp (.tmp (.tmp (.tmp (.tmp .nil)))))) rfl ?_
        exact ⟨by first | rfl | (simp; done) | (simp [*]; done), by repeat (first | exact Drawn0.refl _ | apply Drawn0.step)⟩
      · replace c6 := Bool.eq_false_iff.mpr c6
        subst c6
        have H1 : (if a1 = 64 then (some (wrap64 ((IntKind.u64.wrap (a0)) / 9223372036854775808), wrap64 (Go.bits .and .u64 ((IntKind.u64.wrap (a0)) / 4503599627370496) 2047), wrap64 (Go.bits .and .u64 (IntKind.u64.wrap (a0)) 4503599627370495), 2047, true)) else (some (0, 0, 0, 0, false))) = some (r1, r2, r3, r4, r5) := by rw [if_neg (show ¬ (false = true) by decide)] at H; exact H
        clear H
        have H := H1
        clear H1
        by_cases c7 : a1 = 64
        · rw [if_pos c7] at H
          have c7b0 : (a1 == 64) = true := beq_iff_eq.mpr c7
          have c7b1 : (a1 != 64) = false := bne_eq_false_iff_eq.mpr c7
          clear c7
          simp only [Option.some.injEq, Prod.mk.injEq] at H
          obtain ⟨rfl, rfl, rfl, rfl, rfl⟩ := H
          go_wp2
          refine bodyPost_ret (results_list (rs := [.tmp 4, .tmp 5, .tmp 6, .tmp 7, .tmp 8]) rfl (by simp) (.tmp (.tmp (.tmp (.tmp (.tmp .nil)))))) rfl ?_
          exact ⟨by first | rfl | (simp; done) | (simp [*]; done), by repeat (first | exact Drawn0.refl _ | apply Drawn0.step)⟩
        · rw [if_neg c7] at H
          have c7b0 : (a1 == 64) = false := beq_eq_false_iff_ne.mpr c7
          have c7b1 : (a1 != 64) = true := bne_iff_ne.mpr c7
          simp only [Option.some.injEq, Prod.mk.injEq] at H
          obtain ⟨rfl, rfl, rfl, rfl, rfl⟩ := H
          go_wp2
          refine bodyPost_ret (results_list (rs := [.tmp 4, .tmp 5, .tmp 6, .tmp 7, .tmp 8]) rfl (by simp) (.tmp (.tmp (.tmp (.tmp (.tmp .nil)))))) rfl ?_
          exact ⟨by first | rfl | (simp; done) | (simp [*]; done), by repeat (first | exact Drawn0.refl _ | apply Drawn0.step)⟩

/-! ### spec_Widen: function 15 -/
mutual
def spec_Widen.j0 : Nat → Int → Int → Int → Bool → Option (Int × Bool)
  | 0, _, _, _, _ => none
  | k + 1, x5, x6, x9, x39 => if x39 = true then (some (wrap64 (x9), true)) else (if x5 = 0 then (spec_Widen.l0 k x9 1 x6) else (some (wrap64 (Go.bits .or .u64 (Go.bits .or .u64 x9 (IntKind.u64.wrap ((IntKind.u64.wrap (wrap64 ((wrap64 (x5 - 127)) + 1023))) * 4503599627370496))) (IntKind.u64.wrap ((IntKind.u64.wrap (x6)) * 536870912))), true)))
def spec_Widen.l0 : Nat → Int → Int → Int → Option (Int × Bool)
  | 0, _, _, _ => none
  | k + 1, x9, x10, x11 => if x11 < 8388608 then (spec_Widen.l0 k x9 (wrap64 (x10 - 1)) (wrap64 (x11 * 2))) else (some (wrap64 (Go.bits .or .u64 (Go.bits .or .u64 x9 (IntKind.u64.wrap ((IntKind.u64.wrap (wrap64 ((wrap64 (x10 - 127)) + 1023))) * 4503599627370496))) (IntKind.u64.wrap ((IntKind.u64.wrap (wrap64 (x11 - 8388608))) * 536870912))), true))
end
def spec_Widen.f (k : Nat) (a0 : Int) : Option (Int × Bool) := (spec_l2Parts.f k a0 32).bind fun bt102 => (if bt102.2.2.2.2 = true then (if bt102.2.1 = 255 then (some (wrap64 (Go.bits .or .u64 (Go.bits .or .u64 (IntKind.u64.wrap ((IntKind.u64.wrap (bt102.1)) * 9223372036854775808)) 9218868437227405312) (IntKind.u64.wrap ((IntKind.u64.wrap (bt102.2.2.1)) * 536870912))), true)) else (if bt102.2.1 = 0 then (spec_Widen.j0 k bt102.2.1 bt102.2.2.1 (IntKind.u64.wrap ((IntKind.u64.wrap (bt102.1)) * 9223372036854775808)) (bt102.2.2.1 == 0)) else (spec_Widen.j0 k bt102.2.1 bt102.2.2.1 (IntKind.u64.wrap ((IntKind.u64.wrap (bt102.1)) * 9223372036854775808)) false))) else (some (0, false)))
theorem spec_Widen.mono_l : ∀ k, (∀ y0 y1 y2 y3, LeO (spec_Widen.j0 k y0 y1 y2 y3) (spec_Widen.j0 (k + 1) y0 y1 y2 y3)) ∧ (∀ y0 y1 y2, LeO (spec_Widen.l0 k y0 y1 y2) (spec_Widen.l0 (k + 1) y0 y1 y2))
  | 0 => ⟨fun _ _ _ _ r h => by simp [spec_Widen.j0] at h, fun _ _ _ r h => by simp [spec_Widen.l0] at h⟩
  | k + 1 => by
    obtain ⟨ih0, ih1⟩ := spec_Widen.mono_l k
    refine ⟨?_, ?_⟩
    · intro y0 y1 y2 y3
      unfold spec_Widen.j0
      repeat' first
      | (with_reducible exact ih0 _ _ _ _)
      | (with_reducible exact ih1 _ _ _)
      | (with_reducible exact spec_l2Parts.mono _ _ _)
      | (with_reducible exact LeO.refl _)
      | (with_reducible exact LeO.none _)
      | (with_reducible refine LeO.ite ?_ ?_)
      | (with_reducible refine LeO.bind ?_ (fun _ => ?_))
      | exact ih0 _ _ _ _
      | exact ih1 _ _ _
      | exact spec_l2Parts.mono _ _ _
      | exact LeO.none _
      | refine LeO.ite ?_ ?_
      | refine LeO.bind ?_ (fun _ => ?_)
    · intro y0 y1 y2
      unfold spec_Widen.l0
      repeat' first
      | (with_reducible exact ih0 _ _ _ _)
      | (with_reducible exact ih1 _ _ _)
      | (with_reducible exact spec_l2Parts.mono _ _ _)
      | (with_reducible exact LeO.refl _)
      | (with_reducible exact LeO.none _)
      | (with_reducible refine LeO.ite ?_ ?_)
      | (with_reducible refine LeO.bind ?_ (fun _ => ?_))
      | exact ih0 _ _ _ _
      | exact ih1 _ _ _
      | exact spec_l2Parts.mono _ _ _
      | exact LeO.none _
      | refine LeO.ite ?_ ?_
      | refine LeO.bind ?_ (fun _ => ?_)
theorem spec_Widen.mono : ∀ a0 k, LeO (spec_Widen.f k a0) (spec_Widen.f (k + 1) a0) := by
  intro a0 k
  obtain ⟨ih0, ih1⟩ := spec_Widen.mono_l k
  unfold spec_Widen.f
  repeat' first
      | (with_reducible exact ih0 _ _ _ _)
      | (with_reducible exact ih1 _ _ _)
      | (with_reducible exact spec_l2Parts.mono _ _ _)
      | (with_reducible exact LeO.refl _)
      | (with_reducible exact LeO.none _)
      | (with_reducible refine LeO.ite ?_ ?_)
      | (with_reducible refine LeO.bind ?_ (fun _ => ?_))
      | exact ih0 _ _ _ _
      | exact ih1 _ _ _
      | exact spec_l2Parts.mono _ _ _
      | exact LeO.none _
      | refine LeO.ite ?_ ?_
      | refine LeO.bind ?_ (fun _ => ?_)
set_option maxHeartbeats 8000000 in
set_option maxRecDepth 100000 in
theorem spec_Widen.calls (k : Nat) (a0 : Int) (r1 : Int) (r2 : Bool) (w : World) (h : spec_Widen.f k a0 = some (r1, r2)) :
    Calls Try.prog 15 #[.int .i64 a0] w fun e w' => e = .returned (.tuple #[.int .i64 r1, .bool r2]) ∧ Drawn0 w w' := by
  have H : ((spec_l2Parts.f k a0 32).bind fun bt102 => (if bt102.2.2.2.2 = true then (if bt102.2.1 = 255 then (some (wrap64 (Go.bits .or .u64 (Go.bits .or .u64 (IntKind.u64.wrap ((IntKind.u64.wrap (bt102.1)) * 9223372036854775808)) 9218868437227405312) (IntKind.u64.wrap ((IntKind.u64.wrap (bt102.2.2.1)) * 536870912))), true)) else (if bt102.2.1 = 0 then (spec_Widen.j0 k bt102.2.1 bt102.2.2.1 (IntKind.u64.wrap ((IntKind.u64.wrap (bt102.1)) * 9223372036854775808)) (bt102.2.2.1 == 0)) else (spec_Widen.j0 k bt102.2.1 bt102.2.2.1 (IntKind.u64.wrap ((IntKind.u64.wrap (bt102.1)) * 9223372036854775808)) false))) else (some (0, false)))) = some (r1, r2) := h
  clear h
  replace H := Option.bind_eq_some_iff.mp H
  obtain ⟨⟨t102, t103, t104, t105, t106⟩, A20, H⟩ := H
  replace H : (if t106 = true then (if t103 = 255 then (some (wrap64 (Go.bits .or .u64 (Go.bits .or .u64 (IntKind.u64.wrap ((IntKind.u64.wrap (t102)) * 9223372036854775808)) 9218868437227405312) (IntKind.u64.wrap ((IntKind.u64.wrap (t104)) * 536870912))), true)) else (if t103 = 0 then (spec_Widen.j0 k t103 t104 (IntKind.u64.wrap ((IntKind.u64.wrap (t102)) * 9223372036854775808)) (t104 == 0)) else (spec_Widen.j0 k t103 t104 (IntKind.u64.wrap ((IntKind.u64.wrap (t102)) * 9223372036854775808)) false))) else (some (0, false))) = some (r1, r2) := H
  have A2 := Aside0.mk A20
  clear A20
  by_cases c3 : t106 = true
  · subst c3
    have H1 : (if t103 = 255 then (some (wrap64 (Go.bits .or .u64 (Go.bits .or .u64 (IntKind.u64.wrap ((IntKind.u64.wrap (t102)) * 9223372036854775808)) 9218868437227405312) (IntKind.u64.wrap ((IntKind.u64.wrap (t104)) * 536870912))), true)) else (if t103 = 0 then (spec_Widen.j0 k t103 t104 (IntKind.u64.wrap ((IntKind.u64.wrap (t102)) * 9223372036854775808)) (t104 == 0)) else (spec_Widen.j0 k t103 t104 (IntKind.u64.wrap ((IntKind.u64.wrap (t102)) * 9223372036854775808)) false))) = some (r1, r2) := by rw [if_pos rfl] at H; exact H
    clear H
    have H := H1
    clear H1
    by_cases c4 : t103 = 255
    · rw [if_pos c4] at H
      have c4b0 : (t103 == 255) = true := beq_iff_eq.mpr c4
      have c4b1 : (t103 != 255) = false := bne_eq_false_iff_eq.mpr c4
      clear c4
      simp only [Option.some.injEq, Prod.mk.injEq] at H
      obtain ⟨rfl, rfl⟩ := H
      go_enter Try.func15, Try.ntmps15
      go_wp2_with (first | ((with_reducible refine gate_callee (f := 48) rfl ?_); refine goesL_ (some 14) rfl rfl Try.func48 (by kernel_rfl) rfl #[.int .i64 a0, .int .i64 32] rfl (by (try simp only [List.map_toArray, List.map_cons, List.map_nil]); first | done | rfl | (simp only [List.length_drop, List.length_take]; rfl)) ?_; (with_reducible refine (spec_l2Parts.calls k a0 32 t102 t103 t104 t105 true _ A2.out).mono ?_); rintro e w' ⟨rfl, ⟨nd, rfl⟩⟩; refine ⟨_, rfl, ?_⟩))
      go_ret2
      exact ⟨by first | rfl | (simp; done) | (simp [*]; done), by repeat (first | exact Drawn0.refl _ | apply Drawn0.step)⟩
    · rw [if_neg c4] at H
      have c4b0 : (t103 == 255) = false := beq_eq_false_iff_ne.mpr c4
      have c4b1 : (t103 != 255) = true := bne_iff_ne.mpr c4
      have HC5 := Aside0.mk H
      clear H
      go_enter Try.func15, Try.ntmps15
      go_upto_region 7 with (first | ((with_reducible refine gate_callee (f := 48) rfl ?_); refine goesL_ (some 14) rfl rfl Try.func48 (by kernel_rfl) rfl #[.int .i64 a0, .int .i64 32] rfl (by (try simp only [List.map_toArray, List.map_cons, List.map_nil]); first | done | rfl | (simp only [List.length_drop, List.length_take]; rfl)) ?_; (with_reducible refine (spec_l2Parts.calls k a0 32 t102 t103 t104 t105 true _ A2.out).mono ?_); rintro e w' ⟨rfl, ⟨nd, rfl⟩⟩; refine ⟨_, rfl, ?_⟩))
      (try simp only [Act.put, List.setIfInBounds_toArray, List.set_cons_zero, List.set_cons_succ])
      go_cut [39] (fun v39 wc => ∃ (kq : Nat) (x39_4 : Bool), v39 = .bool x39_4 ∧ Aside0 (spec_Widen.j0 kq t103 t104 (IntKind.u64.wrap ((IntKind.u64.wrap (t102)) * 9223372036854775808)) x39_4 = some (r1, r2)) ∧ Aside0 (kq ≤ k) ∧ Drawn0 w wc)
      case first =>
        have H := HC5.out
        clear HC5
        by_cases c6 : t103 = 0
        · rw [if_pos c6] at H
          have c6b0 : (t103 == 0) = true := beq_iff_eq.mpr c6
          have c6b1 : (t103 != 0) = false := bne_eq_false_iff_eq.mpr c6
          clear c6
          (first | rw [c6b0] | (simp only [i64_w, i32_w]; rw [c6b0]) | skip)
          have H' := Aside0.mk H
          clear H
          go_wp2
          go_meet
          case rel => exact ⟨_, ((t104 == 0)), (by first | rfl | (simp; done) | (simp [*]; done)), H', ⟨by first | omega | exact Nat.le_refl _⟩, by repeat (first | exact Drawn0.refl _ | apply Drawn0.step)⟩
        · rw [if_neg c6] at H
          have c6b0 : (t103 == 0) = false := beq_eq_false_iff_ne.mpr c6
          have c6b1 : (t103 != 0) = true := bne_iff_ne.mpr c6
          (first | rw [c6b0] | (simp only [i64_w, i32_w]; rw [c6b0]) | skip)
          have H' := Aside0.mk H
          clear H
          go_wp2
          go_meet
          case rel => exact ⟨_, (false), (by first | rfl | (simp; done) | (simp [*]; done)), H', ⟨by first | omega | exact Nat.le_refl _⟩, by repeat (first | exact Drawn0.refl _ | apply Drawn0.step)⟩
      case rest =>
        clear HC5
        try clear c1
        try clear p2
        try clear c3
        try clear c4
        try clear c4b0
        try clear c4b1
        try clear c6
        try clear c6b0
        try clear c6b1
        try clear p6
        obtain ⟨kq, x39_4, rfl, HA, HJ4, ⟨mc4, rfl⟩⟩ := hcut
        cases kq with
        | zero => exact absurd HA.out (by simp [spec_Widen.j0])
        | succ kj4 =>
          have H := HA.out
          clear HA
          simp only [spec_Widen.j0] at H
          by_cases c7 : x39_4 = true
          · subst c7
            have H1 : (some (wrap64 ((IntKind.u64.wrap ((IntKind.u64.wrap (t102)) * 9223372036854775808))), true)) = some (r1, r2) := by rw [if_pos rfl] at H; exact H
            clear H
            have H := H1
            clear H1
            simp only [Option.some.injEq, Prod.mk.injEq] at H
            obtain ⟨rfl, rfl⟩ := H
            go_wp2
            go_ret2
            exact ⟨by first | rfl | (simp; done) | (simp [*]; done), by repeat (first | exact Drawn0.refl _ | apply Drawn0.step)⟩
          · replace c7 := Bool.eq_false_iff.mpr c7
            subst c7
            have H1 : (if t103 = 0 then (spec_Widen.l0 kj4 (IntKind.u64.wrap ((IntKind.u64.wrap (t102)) * 9223372036854775808)) 1 t104) else (some (wrap64 (Go.bits .or .u64 (Go.bits .or .u64 (IntKind.u64.wrap ((IntKind.u64.wrap (t102)) * 9223372036854775808)) (IntKind.u64.wrap ((IntKind.u64.wrap (wrap64 ((wrap64 (t103 - 127)) + 1023))) * 4503599627370496))) (IntKind.u64.wrap ((IntKind.u64.wrap (t104)) * 536870912))), true))) = some (r1, r2) := by rw [if_neg (show ¬ (false = true) by decide)] at H; exact H
            clear H
            have H := H1
            clear H1
            by_cases c8 : t103 = 0
            · rw [if_pos c8] at H
              have c8b0 : (t103 == 0) = true := beq_iff_eq.mpr c8
              have c8b1 : (t103 != 0) = false := bne_eq_false_iff_eq.mpr c8
              clear c8
              have H' := Aside0.mk H
              clear H
              go_wp2
              go_loopg [10, 11] kj4 (fun kq v10 v11 w' => ∃ (x10_2 : Int) (x11_2 : Int), v10 = .int .i64 x10_2 ∧ v11 = .int .i64 x11_2 ∧ Aside0 (spec_Widen.l0 kq (IntKind.u64.wrap ((IntKind.u64.wrap (t102)) * 9223372036854775808)) x10_2 x11_2 = some (r1, r2)) ∧ Aside0 (kq ≤ kj4) ∧ Drawn0 w w')
              case atStart => exact ⟨(1), (t104), (by first | rfl | (simp; done) | (simp [*]; done)), (by first | rfl | (simp; done) | (simp [*]; done)), H', ⟨Nat.le_refl _⟩, by repeat (first | exact Drawn0.refl _ | apply Drawn0.step)⟩
              case round =>
                clear H'
                try clear c1
                try clear p2
                try clear c3
                try clear c4
                try clear c4b0
                try clear c4b1
                try clear c6
                try clear c6b0
                try clear c6b1
                try clear p6
                try clear c7
                try clear c8
                try clear c8b0
                try clear c8b1
                try clear p2
                try clear p6
                obtain ⟨x10_2, x11_2, rfl, rfl, HA, HK2, ⟨m2, rfl⟩⟩ := hrel
                cases gk with
                | zero => exact absurd HA.out (by simp [spec_Widen.l0])
                | succ k2 =>
                  have H := HA.out
                  clear HA
                  simp only [spec_Widen.l0] at H
                  by_cases c9 : x11_2 < 8388608
                  · rw [if_pos c9] at H
                    have c9b0 : decide (x11_2 < 8388608) = true := decide_eq_true c9
                    clear c9
                    have H' := Aside0.mk H
                    clear H
                    go_wp2
                    go_roundg k2
                    case measure => have := HJ4.out; have := HK2.out; omega
                    case rel => exact ⟨(wrap64 (x10_2 - 1)), (wrap64 (x11_2 * 2)), (by first | rfl | (simp; done) | (simp [*]; done)), (by first | rfl | (simp; done) | (simp [*]; done)), H', ⟨by have := HJ4.out; have := HK2.out; omega⟩, by repeat (first | exact Drawn0.refl _ | apply Drawn0.step)⟩
                  · rw [if_neg c9] at H
                    have c9b0 : decide (x11_2 < 8388608) = false := decide_eq_false c9
                    clear c9
                    simp only [Option.some.injEq, Prod.mk.injEq] at H
                    obtain ⟨rfl, rfl⟩ := H
                    go_wp2
                    go_ret2
                    exact ⟨by first | rfl | (simp; done) | (simp [*]; done), by repeat (first | exact Drawn0.refl _ | apply Drawn0.step)⟩
            · rw [if_neg c8] at H
              have c8b0 : (t103 == 0) = false := beq_eq_false_iff_ne.mpr c8
              have c8b1 : (t103 != 0) = true := bne_iff_ne.mpr c8
              simp only [Option.some.injEq, Prod.mk.injEq] at H
              obtain ⟨rfl, rfl⟩ := H
              go_wp2
              go_ret2
              exact ⟨by first | rfl | (simp; done) | (simp [*]; done), by repeat (first | exact Drawn0.refl _ | apply Drawn0.step)⟩
  · replace c3 := Bool.eq_false_iff.mpr c3
    subst c3
    have H1 : (some (0, false)) = some (r1, r2) := by rw [if_neg (show ¬ (false = true) by decide)] at H; exact H
    clear H
    have H := H1
    clear H1
    simp only [Option.some.injEq, Prod.mk.injEq] at H
    obtain ⟨rfl, rfl⟩ := H
    go_enter Try.func15, Try.ntmps15
    go_wp2_with (first | ((with_reducible refine gate_callee (f := 48) rfl ?_); refine goesL_ (some 14) rfl rfl Try.func48 (by kernel_rfl) rfl #[.int .i64 a0, .int .i64 32] rfl (by (try simp only [List.map_toArray, List.map_cons, List.map_nil]); first | done | rfl | (simp only [List.length_drop, List.length_take]; rfl)) ?_; (with_reducible refine (spec_l2Parts.calls k a0 32 t102 t103 t104 t105 false _ A2.out).mono ?_); rintro e w' ⟨rfl, ⟨nd, rfl⟩⟩; refine ⟨_, rfl, ?_⟩))
    go_ret2
    exact ⟨by first | rfl | (simp; done) | (simp [*]; done), by repeat (first | exact Drawn0.refl _ | apply Drawn0.step)⟩

/-! ### spec_Narrow: function 31 -/
mutual
def spec_Narrow.j0 : Nat → Int → Int → Int → Int → Bool → Option (Int × Bool)
  | 0, _, _, _, _, _ => none
  | k + 1, x0, x9, x10, x11, x45 => if x45 = true then ((spec_Widen.f k (Go.bits .or .i64 (Go.bits .or .i64 x9 (wrap64 (x11 * 8388608))) x10)).bind fun bt116 => (if bt116.1 = x0 then (some (Go.bits .or .i64 (Go.bits .or .i64 x9 (wrap64 (x11 * 8388608))) x10, true)) else (some (0, false)))) else (if x11 ≤ 0 then (spec_Narrow.j1 k x0 x9 x10 x11 (decide (x11 > (-23)))) else (spec_Narrow.j1 k x0 x9 x10 x11 false))
def spec_Narrow.j1 : Nat → Int → Int → Int → Int → Bool → Option (Int × Bool)
  | 0, _, _, _, _, _ => none
  | k + 1, x0, x9, x10, x11, x58 => if x58 = true then (if 0 ≤ (IntKind.u64.wrap (wrap64 (1 - x11))) then (if (shl .i64 (shr .i64 (wrap64 (x10 + 8388608)) (IntKind.u64.wrap (wrap64 (1 - x11)))) (IntKind.u64.wrap (wrap64 (1 - x11)))) = (wrap64 (x10 + 8388608)) then ((spec_Widen.f k (Go.bits .or .i64 x9 (shr .i64 (wrap64 (x10 + 8388608)) (IntKind.u64.wrap (wrap64 (1 - x11)))))).bind fun bt118 => (if bt118.1 = x0 then (some (Go.bits .or .i64 x9 (shr .i64 (wrap64 (x10 + 8388608)) (IntKind.u64.wrap (wrap64 (1 - x11)))), true)) else (some (0, false)))) else (some (0, false))) else (none)) else (some (0, false))
end
def spec_Narrow.f (k : Nat) (a0 : Int) : Option (Int × Bool) := (spec_l2Parts.f k a0 64).bind fun bt107 => (if (Int.tmod bt107.2.2.1 536870912) = 0 then (if bt107.2.1 = 2047 then ((spec_Widen.f k (Go.bits .or .i64 (Go.bits .or .i64 (wrap64 (bt107.1 * 2147483648)) 2139095040) (bt107.2.2.1 / 536870912))).bind fun bt112 => (if bt112.1 = a0 then (some (Go.bits .or .i64 (Go.bits .or .i64 (wrap64 (bt107.1 * 2147483648)) 2139095040) (bt107.2.2.1 / 536870912), true)) else (some (0, false)))) else (if bt107.2.1 = 0 then ((spec_Widen.f k (wrap64 (bt107.1 * 2147483648))).bind fun bt114 => (if bt114.1 = a0 then (some (wrap64 (bt107.1 * 2147483648), true)) else (some (0, false)))) else (if (wrap64 ((wrap64 (bt107.2.1 - 1023)) + 127)) ≥ 1 then (spec_Narrow.j0 k a0 (wrap64 (bt107.1 * 2147483648)) (bt107.2.2.1 / 536870912) (wrap64 ((wrap64 (bt107.2.1 - 1023)) + 127)) (decide ((wrap64 ((wrap64 (bt107.2.1 - 1023)) + 127)) < 255))) else (spec_Narrow.j0 k a0 (wrap64 (bt107.1 * 2147483648)) (bt107.2.2.1 / 536870912) (wrap64 ((wrap64 (bt107.2.1 - 1023)) + 127)) false)))) else (some (0, false)))
theorem spec_Narrow.mono_l : ∀ k, (∀ y0 y1 y2 y3 y4, LeO (spec_Narrow.j0 k y0 y1 y2 y3 y4) (spec_Narrow.j0 (k + 1) y0 y1 y2 y3 y4)) ∧ (∀ y0 y1 y2 y3 y4, LeO (spec_Narrow.j1 k y0 y1 y2 y3 y4) (spec_Narrow.j1 (k + 1) y0 y1 y2 y3 y4))
  | 0 => ⟨fun _ _ _ _ _ r h => by simp [spec_Narrow.j0] at h, fun _ _ _ _ _ r h => by simp [spec_Narrow.j1] at h⟩
  | k + 1 => by
    obtain ⟨ih0, ih1⟩ := spec_Narrow.mono_l k
    refine ⟨?_, ?_⟩
    · intro y0 y1 y2 y3 y4
      unfold spec_Narrow.j0
      repeat' first
      | (with_reducible exact ih0 _ _ _ _ _)
      | (with_reducible exact ih1 _ _ _ _ _)
      | (with_reducible exact spec_Widen.mono _ _)
      | (with_reducible exact spec_l2Parts.mono _ _ _)
      | (with_reducible exact LeO.refl _)
      | (with_reducible exact LeO.none _)
      | (with_reducible refine LeO.ite ?_ ?_)
      | (with_reducible refine LeO.bind ?_ (fun _ => ?_))
      | exact ih0 _ _ _ _ _
      | exact ih1 _ _ _ _ _
      | exact spec_Widen.mono _ _
      | exact spec_l2Parts.mono _ _ _
      | exact LeO.none _
      | refine LeO.ite ?_ ?_
      | refine LeO.bind ?_ (fun _ => ?_)
    · intro y0 y1 y2 y3 y4
      unfold spec_Narrow.j1
      repeat' first
      | (with_reducible exact ih0 _ _ _ _ _)
      | (with_reducible exact ih1 _ _ _ _ _)
      | (with_reducible exact spec_Widen.mono _ _)
      | (with_reducible exact spec_l2Parts.mono _ _ _)
      | (with_reducible exact LeO.refl _)
      | (with_reducible exact LeO.none _)
      | (with_reducible refine LeO.ite ?_ ?_)
      | (with_reducible refine LeO.bind ?_ (fun _ => ?_))
      | exact ih0 _ _ _ _ _
      | exact ih1 _ _ _ _ _
      | exact spec_Widen.mono _ _
      | exact spec_l2Parts.mono _ _ _
      | exact LeO.none _
      | refine LeO.ite ?_ ?_
      | refine LeO.bind ?_ (fun _ => ?_)
theorem spec_Narrow.mono : ∀ a0 k, LeO (spec_Narrow.f k a0) (spec_Narrow.f (k + 1) a0) := by
  intro a0 k
  obtain ⟨ih0, ih1⟩ := spec_Narrow.mono_l k
  unfold spec_Narrow.f
  repeat' first
      | (with_reducible exact ih0 _ _ _ _ _)
      | (with_reducible exact ih1 _ _ _ _ _)
      | (with_reducible exact spec_Widen.mono _ _)
      | (with_reducible exact spec_l2Parts.mono _ _ _)
      | (with_reducible exact LeO.refl _)
      | (with_reducible exact LeO.none _)
      | (with_reducible refine LeO.ite ?_ ?_)
      | (with_reducible refine LeO.bind ?_ (fun _ => ?_))
      | exact ih0 _ _ _ _ _
      | exact ih1 _ _ _ _ _
      | exact spec_Widen.mono _ _
      | exact spec_l2Parts.mono _ _ _
      | exact LeO.none _
      | refine LeO.ite ?_ ?_
      | refine LeO.bind ?_ (fun _ => ?_)
set_option maxHeartbeats 8000000 in
set_option maxRecDepth 100000 in
theorem spec_Narrow.calls (k : Nat) (a0 : Int) (r1 : Int) (r2 : Bool) (w : World) (h : spec_Narrow.f k a0 = some (r1, r2)) :
    Calls Try.prog 31 #[.int .i64 a0] w fun e w' => e = .returned (.tuple #[.int .i64 r1, .bool r2]) ∧ Drawn0 w w' := by
  have H : ((spec_l2Parts.f k a0 64).bind fun bt107 => (if (Int.tmod bt107.2.2.1 536870912) = 0 then (if bt107.2.1 = 2047 then ((spec_Widen.f k (Go.bits .or .i64 (Go.bits .or .i64 (wrap64 (bt107.1 * 2147483648)) 2139095040) (bt107.2.2.1 / 536870912))).bind fun bt112 => (if bt112.1 = a0 then (some (Go.bits .or .i64 (Go.bits .or .i64 (wrap64 (bt107.1 * 2147483648)) 2139095040) (bt107.2.2.1 / 536870912), true)) else (some (0, false)))) else (if bt107.2.1 = 0 then ((spec_Widen.f k (wrap64 (bt107.1 * 2147483648))).bind fun bt114 => (if bt114.1 = a0 then (some (wrap64 (bt107.1 * 2147483648), true)) else (some (0, false)))) else (if (wrap64 ((wrap64 (bt107.2.1 - 1023)) + 127)) ≥ 1 then (spec_Narrow.j0 k a0 (wrap64 (bt107.1 * 2147483648)) (bt107.2.2.1 / 536870912) (wrap64 ((wrap64 (bt107.2.1 - 1023)) + 127)) (decide ((wrap64 ((wrap64 (bt107.2.1 - 1023)) + 127)) < 255))) else (spec_Narrow.j0 k a0 (wrap64 (bt107.1 * 2147483648)) (bt107.2.2.1 / 536870912) (wrap64 ((wrap64 (bt107.2.1 - 1023)) + 127)) false)))) else (some (0, false)))) = some (r1, r2) := h
  clear h
  replace H := Option.bind_eq_some_iff.mp H
  obtain ⟨⟨t107, t108, t109, t110, t111⟩, A20, H⟩ := H
  replace H : (if (Int.tmod t109 536870912) = 0 then (if t108 = 2047 then ((spec_Widen.f k (Go.bits .or .i64 (Go.bits .or .i64 (wrap64 (t107 * 2147483648)) 2139095040) (t109 / 536870912))).bind fun bt112 => (if bt112.1 = a0 then (some (Go.bits .or .i64 (Go.bits .or .i64 (wrap64 (t107 * 2147483648)) 2139095040) (t109 / 536870912), true)) else (some (0, false)))) else (if t108 = 0 then ((spec_Widen.f k (wrap64 (t107 * 2147483648))).bind fun bt114 => (if bt114.1 = a0 then (some (wrap64 (t107 * 2147483648), true)) else (some (0, false)))) else (if (wrap64 ((wrap64 (t108 - 1023)) + 127)) ≥ 1 then (spec_Narrow.j0 k a0 (wrap64 (t107 * 2147483648)) (t109 / 536870912) (wrap64 ((wrap64 (t108 - 1023)) + 127)) (decide ((wrap64 ((wrap64 (t108 - 1023)) + 127)) < 255))) else (spec_Narrow.j0 k a0 (wrap64 (t107 * 2147483648)) (t109 / 536870912) (wrap64 ((wrap64 (t108 - 1023)) + 127)) false)))) else (some (0, false))) = some (r1, r2) := H
  have A2 := Aside0.mk A20
  clear A20
  by_cases c3 : (Int.tmod t109 536870912) = 0
  · rw [if_pos c3] at H
    have c3b0 : ((Int.tmod t109 536870912) == 0) = true := beq_iff_eq.mpr c3
    have c3b1 : ((Int.tmod t109 536870912) != 0) = false := bne_eq_false_iff_eq.mpr c3
    clear c3
    by_cases c4 : t108 = 2047
    · rw [if_pos c4] at H
      have c4b0 : (t108 == 2047) = true := beq_iff_eq.mpr c4
      have c4b1 : (t108 != 2047) = false := bne_eq_false_iff_eq.mpr c4
      clear c4
      replace H := Option.bind_eq_some_iff.mp H
      obtain ⟨⟨t112, t113⟩, A50, H⟩ := H
      replace H : (if t112 = a0 then (some (Go.bits .or .i64 (Go.bits .or .i64 (wrap64 (t107 * 2147483648)) 2139095040) (t109 / 536870912), true)) else (some (0, false))) = some (r1, r2) := H
      have A5 := Aside0.mk A50
      clear A50
      by_cases c6 : t112 = a0
      · rw [if_pos c6] at H
        have c6b0 : (t112 == a0) = true := beq_iff_eq.mpr c6
        have c6b1 : (t112 != a0) = false := bne_eq_false_iff_eq.mpr c6
        clear c6
        simp only [Option.some.injEq, Prod.mk.injEq] at H
        obtain ⟨rfl, rfl⟩ := H
        go_enter Try.func31, Try.ntmps31
        go_wp2_with (first | ((with_reducible refine gate_callee (f := 48) rfl ?_); refine goesL_ (some 18) rfl rfl Try.func48 (by kernel_rfl) rfl #[.int .i64 a0, .int .i64 64] rfl (by (try simp only [List.map_toArray, List.map_cons, List.map_nil]); first | done | rfl | (simp only [List.length_drop, List.length_take]; rfl)) ?_; (with_reducible refine (spec_l2Parts.calls k a0 64 t107 t108 t109 t110 t111 _ A2.out).mono ?_); rintro e w' ⟨rfl, ⟨nd, rfl⟩⟩; refine ⟨_, rfl, ?_⟩) | ((with_reducible refine gate_callee (f := 15) rfl ?_); refine goesL_ (some 87) rfl rfl Try.func15 (by kernel_rfl) rfl #[.int .i64 (Go.bits .or .i64 (Go.bits .or .i64 (wrap64 (t107 * 2147483648)) 2139095040) (t109 / 536870912))] rfl (by (try simp only [List.map_toArray, List.map_cons, List.map_nil]); first | done | rfl | (simp only [List.length_drop, List.length_take]; rfl)) ?_; (with_reducible refine (spec_Widen.calls k (Go.bits .or .i64 (Go.bits .or .i64 (wrap64 (t107 * 2147483648)) 2139095040) (t109 / 536870912)) t112 t113 _ A5.out).mono ?_); rintro e w' ⟨rfl, ⟨nd, rfl⟩⟩; refine ⟨_, rfl, ?_⟩))
        go_ret2
        exact ⟨by first | rfl | (simp; done) | (simp [*]; done), by repeat (first | exact Drawn0.refl _ | apply Drawn0.step)⟩
      · rw [if_neg c6] at H
        have c6b0 : (t112 == a0) = false := beq_eq_false_iff_ne.mpr c6
        have c6b1 : (t112 != a0) = true := bne_iff_ne.mpr c6
        simp only [Option.some.injEq, Prod.mk.injEq] at H
        obtain ⟨rfl, rfl⟩ := H
        go_enter Try.func31, Try.ntmps31
        go_wp2_with (first | ((with_reducible refine gate_callee (f := 48) rfl ?_); refine goesL_ (some 18) rfl rfl Try.func48 (by kernel_rfl) rfl #[.int .i64 a0, .int .i64 64] rfl (by (try simp only [List.map_toArray, List.map_cons, List.map_nil]); first | done | rfl | (simp only [List.length_drop, List.length_take]; rfl)) ?_; (with_reducible refine (spec_l2Parts.calls k a0 64 t107 t108 t109 t110 t111 _ A2.out).mono ?_); rintro e w' ⟨rfl, ⟨nd, rfl⟩⟩; refine ⟨_, rfl, ?_⟩) | ((with_reducible refine gate_callee (f := 15) rfl ?_); refine goesL_ (some 87) rfl rfl Try.func15 (by kernel_rfl) rfl #[.int .i64 (Go.bits .or .i64 (Go.bits .or .i64 (wrap64 (t107 * 2147483648)) 2139095040) (t109 / 536870912))] rfl (by (try simp only [List.map_toArray, List.map_cons, List.map_nil]); first | done | rfl | (simp only [List.length_drop, List.length_take]; rfl)) ?_; (with_reducible refine (spec_Widen.calls k (Go.bits .or .i64 (Go.bits .or .i64 (wrap64 (t107 * 2147483648)) 2139095040) (t109 / 536870912)) t112 t113 _ A5.out).mono ?_); rintro e w' ⟨rfl, ⟨nd, rfl⟩⟩; refine ⟨_, rfl, ?_⟩))
        go_ret2
        exact ⟨by first | rfl | (simp; done) | (simp [*]; done), by repeat (first | exact Drawn0.refl _ | apply Drawn0.step)⟩
    · rw [if_neg c4] at H
      have c4b0 : (t108 == 2047) = false := beq_eq_false_iff_ne.mpr c4
      have c4b1 : (t108 != 2047) = true := bne_iff_ne.mpr c4
      by_cases c7 : t108 = 0
      · rw [if_pos c7] at H
        have c7b0 : (t108 == 0) = true := beq_iff_eq.mpr c7
        have c7b1 : (t108 != 0) = false := bne_eq_false_iff_eq.mpr c7
        clear c7
        replace H := Option.bind_eq_some_iff.mp H
        obtain ⟨⟨t114, t115⟩, A80, H⟩ := H
        replace H : (if t114 = a0 then (some (wrap64 (t107 * 2147483648), true)) else (some (0, false))) = some (r1, r2) := H
        have A8 := Aside0.mk A80
        clear A80
        by_cases c9 : t114 = a0
        · rw [if_pos c9] at H
          have c9b0 : (t114 == a0) = true := beq_iff_eq.mpr c9
          have c9b1 : (t114 != a0) = false := bne_eq_false_iff_eq.mpr c9
          clear c9
          simp only [Option.some.injEq, Prod.mk.injEq] at H
          obtain ⟨rfl, rfl⟩ := H
          go_enter Try.func31, Try.ntmps31
          go_wp2_with (first | ((with_reducible refine gate_callee (f := 48) rfl ?_); refine goesL_ (some 18) rfl rfl Try.func48 (by kernel_rfl) rfl #[.int .i64 a0, .int .i64 64] rfl (by (try simp only [List.map_toArray, List.map_cons, List.map_nil]); first | done | rfl | (simp only [List.length_drop, List.length_take]; rfl)) ?_; (with_reducible refine (spec_l2Parts.calls k a0 64 t107 t108 t109 t110 t111 _ A2.out).mono ?_); rintro e w' ⟨rfl, ⟨nd, rfl⟩⟩; refine ⟨_, rfl, ?_⟩) | ((with_reducible refine gate_callee (f := 15) rfl ?_); refine goesL_ (some 87) rfl rfl Try.func15 (by kernel_rfl) rfl #[.int .i64 (wrap64 (t107 * 2147483648))] rfl (by (try simp only [List.map_toArray, List.map_cons, List.map_nil]); first | done | rfl | (simp only [List.length_drop, List.length_take]; rfl)) ?_; (with_reducible refine (spec_Widen.calls k (wrap64 (t107 * 2147483648)) t114 t115 _ A8.out).mono ?_); rintro e w' ⟨rfl, ⟨nd, rfl⟩⟩; refine ⟨_, rfl, ?_⟩))
          go_ret2
          exact ⟨by first | rfl | (simp; done) | (simp [*]; done), by repeat (first | exact Drawn0.refl _ | apply Drawn0.step)⟩
        · rw [if_neg c9] at H
          have c9b0 : (t114 == a0) = false := beq_eq_false_iff_ne.mpr c9
          have c9b1 : (t114 != a0) = true := bne_iff_ne.mpr c9
          simp only [Option.some.injEq, Prod.mk.injEq] at H
          obtain ⟨rfl, rfl⟩ := H
          go_enter Try.func31, Try.ntmps31
          go_wp2_with (first | ((with_reducible refine gate_callee (f := 48) rfl ?_); refine goesL_ (some 18) rfl rfl Try.func48 (by kernel_rfl) rfl #[.int .i64 a0, .int .i64 64] rfl (by (try simp only [List.map_toArray, List.map_cons, List.map_nil]); first | done | rfl | (simp only [List.length_drop, List.length_take]; rfl)) ?_; (with_reducible refine (spec_l2Parts.calls k a0 64 t107 t108 t109 t110 t111 _ A2.out).mono ?_); rintro e w' ⟨rfl, ⟨nd, rfl⟩⟩; refine ⟨_, rfl, ?_⟩) | ((with_reducible refine gate_callee (f := 15) rfl ?_); refine goesL_ (some 87) rfl rfl Try.func15 (by kernel_rfl) rfl #[.int .i64 (wrap64 (t107 * 2147483648))] rfl (by (try simp only [List.map_toArray, List.map_cons, List.map_nil]); first | done | rfl | (simp only [List.length_drop, List.length_take]; rfl)) ?_; (with_reducible refine (spec_Widen.calls k (wrap64 (t107 * 2147483648)) t114 t115 _ A8.out).mono ?_); rintro e w' ⟨rfl, ⟨nd, rfl⟩⟩; refine ⟨_, rfl, ?_⟩))
          go_ret2
          exact ⟨by first | rfl | (simp; done) | (simp [*]; done), by repeat (first | exact Drawn0.refl _ | apply Drawn0.step)⟩
      · rw [if_neg c7] at H
        have c7b0 : (t108 == 0) = false := beq_eq_false_iff_ne.mpr c7
        have c7b1 : (t108 != 0) = true := bne_iff_ne.mpr c7
        have HC10 := Aside0.mk H
        clear H
        go_enter Try.func31, Try.ntmps31
        go_upto_region 13 with (first | ((with_reducible refine gate_callee (f := 48) rfl ?_); refine goesL_ (some 18) rfl rfl Try.func48 (by kernel_rfl) rfl #[.int .i64 a0, .int .i64 64] rfl (by (try simp only [List.map_toArray, List.map_cons, List.map_nil]); first | done | rfl | (simp only [List.length_drop, List.length_take]; rfl)) ?_; (with_reducible refine (spec_l2Parts.calls k a0 64 t107 t108 t109 t110 t111 _ A2.out).mono ?_); rintro e w' ⟨rfl, ⟨nd, rfl⟩⟩; refine ⟨_, rfl, ?_⟩))
        (try simp only [Act.put, List.setIfInBounds_toArray, List.set_cons_zero, List.set_cons_succ])
        go_cut [45] (fun v45 wc => ∃ (kq : Nat) (x45_9 : Bool), v45 = .bool x45_9 ∧ Aside0 (spec_Narrow.j0 kq a0 (wrap64 (t107 * 2147483648)) (t109 / 536870912) (wrap64 ((wrap64 (t108 - 1023)) + 127)) x45_9 = some (r1, r2)) ∧ Aside0 (kq ≤ k) ∧ Drawn0 w wc)
        case first =>
          have H := HC10.out
          clear HC10
          by_cases c11 : (wrap64 ((wrap64 (t108 - 1023)) + 127)) ≥ 1
          · rw [if_pos c11] at H
            have c11b0 : decide (1 ≤ (wrap64 ((wrap64 (t108 - 1023)) + 127))) = true := decide_eq_true c11
            clear c11
            (first | rw [c11b0] | (simp only [i64_w, i32_w]; rw [c11b0]) | skip)
            have H' := Aside0.mk H
            clear H
            go_wp2
            go_meet
            case rel => exact ⟨_, (decide ((wrap64 ((wrap64 (t108 - 1023)) + 127)) < 255)), (by first | rfl | (simp; done) | (simp [*]; done)), H', ⟨by first | omega | exact Nat.le_refl _⟩, by repeat (first | exact Drawn0.refl _ | apply Drawn0.step)⟩
          · rw [if_neg c11] at H
            have c11b0 : decide (1 ≤ (wrap64 ((wrap64 (t108 - 1023)) + 127))) = false := decide_eq_false c11
            clear c11
            (first | rw [c11b0] | (simp only [i64_w, i32_w]; rw [c11b0]) | skip)
            have H' := Aside0.mk H
            clear H
            go_wp2
            go_meet
            case rel => exact ⟨_, (false), (by first | rfl | (simp; done) | (simp [*]; done)), H', ⟨by first | omega | exact Nat.le_refl _⟩, by repeat (first | exact Drawn0.refl _ | apply Drawn0.step)⟩
        case rest =>
          clear HC10
          try clear c1
          try clear p2
          try clear c3
          try clear c3b0
          try clear c3b1
          try clear c4
          try clear c4b0
          try clear c4b1
          try clear c6
          try clear c6b0
          try clear c6b1
          try clear p6
          try clear c7
          try clear c7b0
          try clear c7b1
          try clear c9
          try clear c9b0
          try clear c9b1
          try clear c11
          try clear c11b0
          obtain ⟨kq, x45_9, rfl, HA, HJ9, ⟨mc9, rfl⟩⟩ := hcut
          cases kq with
          | zero => exact absurd HA.out (by simp [spec_Narrow.j0])
          | succ kj9 =>
            have H := HA.out
            clear HA
            simp only [spec_Narrow.j0] at H
            by_cases c12 : x45_9 = true
            · subst c12
              have H1 : ((spec_Widen.f kj9 (Go.bits .or .i64 (Go.bits .or .i64 (wrap64 (t107 * 2147483648)) (wrap64 ((wrap64 ((wrap64 (t108 - 1023)) + 127)) * 8388608))) (t109 / 536870912))).bind fun bt116 => (if bt116.1 = a0 then (some (Go.bits .or .i64 (Go.bits .or .i64 (wrap64 (t107 * 2147483648)) (wrap64 ((wrap64 ((wrap64 (t108 - 1023)) + 127)) * 8388608))) (t109 / 536870912), true)) else (some (0, false)))) = some (r1, r2) := by rw [if_pos rfl] at H; exact H
              clear H
              have H := H1
              clear H1
              replace H := Option.bind_eq_some_iff.mp H
              obtain ⟨⟨t116, t117⟩, A130, H⟩ := H
              replace H : (if t116 = a0 then (some (Go.bits .or .i64 (Go.bits .or .i64 (wrap64 (t107 * 2147483648)) (wrap64 ((wrap64 ((wrap64 (t108 - 1023)) + 127)) * 8388608))) (t109 / 536870912), true)) else (some (0, false))) = some (r1, r2) := H
              have A13 := Aside0.mk A130
              clear A130
              by_cases c14 : t116 = a0
              · rw [if_pos c14] at H
                have c14b0 : (t116 == a0) = true := beq_iff_eq.mpr c14
                have c14b1 : (t116 != a0) = false := bne_eq_false_iff_eq.mpr c14
                clear c14
                simp only [Option.some.injEq, Prod.mk.injEq] at H
                obtain ⟨rfl, rfl⟩ := H
                go_wp2_with (first | ((with_reducible refine gate_callee (f := 15) rfl ?_); refine goesL_ (some 87) rfl rfl Try.func15 (by kernel_rfl) rfl #[.int .i64 (Go.bits .or .i64 (Go.bits .or .i64 (wrap64 (t107 * 2147483648)) (wrap64 ((wrap64 ((wrap64 (t108 - 1023)) + 127)) * 8388608))) (t109 / 536870912))] rfl (by (try simp only [List.map_toArray, List.map_cons, List.map_nil]); first | done | rfl | (simp only [List.length_drop, List.length_take]; rfl)) ?_; (with_reducible refine (spec_Widen.calls kj9 (Go.bits .or .i64 (Go.bits .or .i64 (wrap64 (t107 * 2147483648)) (wrap64 ((wrap64 ((wrap64 (t108 - 1023)) + 127)) * 8388608))) (t109 / 536870912)) t116 t117 _ A13.out).mono ?_); rintro e w' ⟨rfl, ⟨nd, rfl⟩⟩; refine ⟨_, rfl, ?_⟩))
                go_ret2
                exact ⟨by first | rfl | (simp; done) | (simp [*]; done), by repeat (first | exact Drawn0.refl _ | apply Drawn0.step)⟩
              · rw [if_neg c14] at H
                have c14b0 : (t116 == a0) = false := beq_eq_false_iff_ne.mpr c14
                have c14b1 : (t116 != a0) = true := bne_iff_ne.mpr c14
                simp only [Option.some.injEq, Prod.mk.injEq] at H
                obtain ⟨rfl, rfl⟩ := H
                go_wp2_with (first | ((with_reducible refine gate_callee (f := 15) rfl ?_); refine goesL_ (some 87) rfl rfl Try.func15 (by kernel_rfl) rfl #[.int .i64 (Go.bits .or .i64 (Go.bits .or .i64 (wrap64 (t107 * 2147483648)) (wrap64 ((wrap64 ((wrap64 (t108 - 1023)) + 127)) * 8388608))) (t109 / 536870912))] rfl (by (try simp only [List.map_toArray, List.map_cons, List.map_nil]); first | done | rfl | (simp only [List.length_drop, List.length_take]; rfl)) ?_; (with_reducible refine (spec_Widen.calls kj9 (Go.bits .or .i64 (Go.bits .or .i64 (wrap64 (t107 * 2147483648)) (wrap64 ((wrap64 ((wrap64 (t108 - 1023)) + 127)) * 8388608))) (t109 / 536870912)) t116 t117 _ A13.out).mono ?_); rintro e w' ⟨rfl, ⟨nd, rfl⟩⟩; refine ⟨_, rfl, ?_⟩))
                go_ret2
                exact ⟨by first | rfl | (simp; done) | (simp [*]; done), by repeat (first | exact Drawn0.refl _ | apply Drawn0.step)⟩
            · replace c12 := Bool.eq_false_iff.mpr c12
              subst c12
              have H1 : (if (wrap64 ((wrap64 (t108 - 1023)) + 127)) ≤ 0 then (spec_Narrow.j1 kj9 a0 (wrap64 (t107 * 2147483648)) (t109 / 536870912) (wrap64 ((wrap64 (t108 - 1023)) + 127)) (decide ((wrap64 ((wrap64 (t108 - 1023)) + 127)) > (-23)))) else (spec_Narrow.j1 kj9 a0 (wrap64 (t107 * 2147483648)) (t109 / 536870912) (wrap64 ((wrap64 (t108 - 1023)) + 127)) false)) = some (r1, r2) := by rw [if_neg (show ¬ (false = true) by decide)] at H; exact H
              clear H
              have H := H1
              clear H1
              have HC15 := Aside0.mk H
              clear H
              go_upto_region 15 with (fail)
              go_cut [58] (fun v58 wc => ∃ (kq : Nat) (x58_14 : Bool), v58 = .bool x58_14 ∧ Aside0 (spec_Narrow.j1 kq a0 (wrap64 (t107 * 2147483648)) (t109 / 536870912) (wrap64 ((wrap64 (t108 - 1023)) + 127)) x58_14 = some (r1, r2)) ∧ Aside0 (kq ≤ kj9) ∧ Drawn0 w wc)
              case first =>
                have H := HC15.out
                clear HC15
                by_cases c16 : (wrap64 ((wrap64 (t108 - 1023)) + 127)) ≤ 0
                · rw [if_pos c16] at H
                  have c16b0 : decide ((wrap64 ((wrap64 (t108 - 1023)) + 127)) ≤ 0) = true := decide_eq_true c16
                  clear c16
                  (first | rw [c16b0] | (simp only [i64_w, i32_w]; rw [c16b0]) | skip)
                  have H' := Aside0.mk H
                  clear H
                  go_wp2
                  go_meet
                  case rel => exact ⟨_, (decide ((wrap64 ((wrap64 (t108 - 1023)) + 127)) > (-23))), (by first | rfl | (simp; done) | (simp [*]; done)), H', ⟨by have := HJ9.out; first | omega | exact Nat.le_refl _⟩, by repeat (first | exact Drawn0.refl _ | apply Drawn0.step)⟩
                · rw [if_neg c16] at H
                  have c16b0 : decide ((wrap64 ((wrap64 (t108 - 1023)) + 127)) ≤ 0) = false := decide_eq_false c16
                  clear c16
                  (first | rw [c16b0] | (simp only [i64_w, i32_w]; rw [c16b0]) | skip)
                  have H' := Aside0.mk H
                  clear H
                  go_wp2
                  go_meet
                  case rel => exact ⟨_, (false), (by first | rfl | (simp; done) | (simp [*]; done)), H', ⟨by have := HJ9.out; first | omega | exact Nat.le_refl _⟩, by repeat (first | exact Drawn0.refl _ | apply Drawn0.step)⟩
              case rest =>
                clear HC15
                try clear c1
                try clear p2
                try clear c3
                try clear c3b0
                try clear c3b1
                try clear c4
                try clear c4b0
                try clear c4b1
                try clear c6
                try clear c6b0
                try clear c6b1
                try clear p6
                try clear c7
                try clear c7b0
                try clear c7b1
                try clear c9
                try clear c9b0
                try clear c9b1
                try clear c11
                try clear c11b0
                try clear c12
                try clear c14
                try clear c14b0
                try clear c14b1
                try clear c15
                try clear c16
                try clear c16b0
                try clear p2
                try clear p6
                obtain ⟨kq, x58_14, rfl, HA, HJ14, ⟨mc14, rfl⟩⟩ := hcut
                cases kq with
                | zero => exact absurd HA.out (by simp [spec_Narrow.j1])
                | succ kj14 =>
                  have H := HA.out
                  clear HA
                  simp only [spec_Narrow.j1] at H
                  by_cases c17 : x58_14 = true
                  · subst c17
                    have H1 : (if 0 ≤ (IntKind.u64.wrap (wrap64 (1 - (wrap64 ((wrap64 (t108 - 1023)) + 127))))) then (if (shl .i64 (shr .i64 (wrap64 ((t109 / 536870912) + 8388608)) (IntKind.u64.wrap (wrap64 (1 - (wrap64 ((wrap64 (t108 - 1023)) + 127)))))) (IntKind.u64.wrap (wrap64 (1 - (wrap64 ((wrap64 (t108 - 1023)) + 127)))))) = (wrap64 ((t109 / 536870912) + 8388608)) then ((spec_Widen.f kj14 (Go.bits .or .i64 (wrap64 (t107 * 2147483648)) (shr .i64 (wrap64 ((t109 / 536870912) + 8388608)) (IntKind.u64.wrap (wrap64 (1 - (wrap64 ((wrap64 (t108 - 1023)) + 127)))))))).bind fun bt118 => (if bt118.1 = a0 then (some (Go.bits .or .i64 (wrap64 (t107 * 2147483648)) (shr .i64 (wrap64 ((t109 / 536870912) + 8388608)) (IntKind.u64.wrap (wrap64 (1 - (wrap64 ((wrap64 (t108 - 1023)) + 127)))))), true)) else (some (0, false)))) else (some (0, false))) else (none)) = some (r1, r2) := by rw [if_pos rfl] at H; exact H
                    clear H
                    have H := H1
                    clear H1
                    obtain ⟨ji18, hji18⟩ : ∃ j_ : Int, (IntKind.u64.wrap (wrap64 (1 - (wrap64 ((wrap64 (t108 - 1023)) + 127))))) = j_ := ⟨_, rfl⟩
                    replace H : (if 0 ≤ (ji18) then (if (shl .i64 (shr .i64 (wrap64 ((t109 / 536870912) + 8388608)) (ji18)) (ji18)) = (wrap64 ((t109 / 536870912) + 8388608)) then ((spec_Widen.f kj14 (Go.bits .or .i64 (wrap64 (t107 * 2147483648)) (shr .i64 (wrap64 ((t109 / 536870912) + 8388608)) (ji18)))).bind fun bt118 => (if bt118.1 = a0 then (some (Go.bits .or .i64 (wrap64 (t107 * 2147483648)) (shr .i64 (wrap64 ((t109 / 536870912) + 8388608)) (ji18)), true)) else (some (0, false)))) else (some (0, false))) else (none)) = some (r1, r2) := by first | (rw [hji18] at H; exact H) | (simp only [hji18] at H ⊢; exact H)
                    by_cases c19 : 0 ≤ (ji18)
                    · rw [if_pos c19] at H
                      have c19b0 := eq_true c19
                      have c19b1 : decide (0 ≤ (ji18)) = true := decide_eq_true c19
                      clear c19
                      obtain ⟨ji20, hji20⟩ : ∃ j_ : Int, (shr .i64 (wrap64 ((t109 / 536870912) + 8388608)) (ji18)) = j_ := ⟨_, rfl⟩
                      replace H : (if (shl .i64 (ji20) (ji18)) = (wrap64 ((t109 / 536870912) + 8388608)) then ((spec_Widen.f kj14 (Go.bits .or .i64 (wrap64 (t107 * 2147483648)) (ji20))).bind fun bt118 => (if bt118.1 = a0 then (some (Go.bits .or .i64 (wrap64 (t107 * 2147483648)) (ji20), true)) else (some (0, false)))) else (some (0, false))) = some (r1, r2) := by first | (rw [hji20] at H; exact H) | (simp only [hji20] at H ⊢; exact H)
                      have hji20_ : ((wrap64 ((t109 / 536870912) + 8388608)) / 2 ^ min (ji18).toNat 64) = ji20 := hji20
                      have hji20z : (ji18) ≤ 64 → ((wrap64 ((t109 / 536870912) + 8388608)) / 2 ^ (ji18).toNat) = ji20 := shr_small hji20
                      have c21b0 := eq_true (of_decide_eq_true (by first | (with_reducible assumption) | assumption) : 0 ≤ (ji18))
                      obtain ⟨ji22, hji22⟩ : ∃ j_ : Int, (shl .i64 (ji20) (ji18)) = j_ := ⟨_, rfl⟩
                      replace H : (if (ji22) = (wrap64 ((t109 / 536870912) + 8388608)) then ((spec_Widen.f kj14 (Go.bits .or .i64 (wrap64 (t107 * 2147483648)) (ji20))).bind fun bt118 => (if bt118.1 = a0 then (some (Go.bits .or .i64 (wrap64 (t107 * 2147483648)) (ji20), true)) else (some (0, false)))) else (some (0, false))) = some (r1, r2) := by first | (rw [hji22] at H; exact H) | (simp only [hji22] at H ⊢; exact H)
                      have hji22_ : (IntKind.i64.wrap ((ji20) * 2 ^ min (ji18).toNat 64)) = ji22 := hji22
                      have hji22z : (ji18) ≤ 64 → (IntKind.i64.wrap ((ji20) * 2 ^ (ji18).toNat)) = ji22 := shl_small hji22
                      have hji22y : (wrap64 ((ji20) * 2 ^ min (ji18).toNat 64)) = ji22 := (i64_w _).symm.trans hji22_
                      have hji22x : (ji18) ≤ 64 → (wrap64 ((ji20) * 2 ^ (ji18).toNat)) = ji22 := fun h_ => (i64_w _).symm.trans (hji22z h_)
                      by_cases c23 : (ji22) = (wrap64 ((t109 / 536870912) + 8388608))
                      · rw [if_pos c23] at H
                        have c23b0 : ((ji22) == (wrap64 ((t109 / 536870912) + 8388608))) = true := beq_iff_eq.mpr c23
                        have c23b1 : ((ji22) != (wrap64 ((t109 / 536870912) + 8388608))) = false := bne_eq_false_iff_eq.mpr c23
                        clear c23
                        have c24b0 := eq_true (of_decide_eq_true (by first | (with_reducible assumption) | assumption) : 0 ≤ (ji18))
                        replace H := Option.bind_eq_some_iff.mp H
                        obtain ⟨⟨t118, t119⟩, A260, H⟩ := H
                        replace H : (if t118 = a0 then (some (Go.bits .or .i64 (wrap64 (t107 * 2147483648)) (ji20), true)) else (some (0, false))) = some (r1, r2) := H
                        have A26 := Aside0.mk A260
                        clear A260
                        by_cases c27 : t118 = a0
                        · rw [if_pos c27] at H
                          have c27b0 : (t118 == a0) = true := beq_iff_eq.mpr c27
                          have c27b1 : (t118 != a0) = false := bne_eq_false_iff_eq.mpr c27
                          clear c27
                          simp only [Option.some.injEq, Prod.mk.injEq] at H
                          obtain ⟨rfl, rfl⟩ := H
                          go_wp2_with (first | ((with_reducible refine gate_callee (f := 15) rfl ?_); refine goesL_ (some 87) rfl rfl Try.func15 (by kernel_rfl) rfl #[.int .i64 (Go.bits .or .i64 (wrap64 (t107 * 2147483648)) (ji20))] rfl (by (try simp only [List.map_toArray, List.map_cons, List.map_nil]); first | done | (simp only [hji20]; rfl) | rfl | (simp only [List.length_drop, List.length_take]; rfl)) ?_; (with_reducible refine (spec_Widen.calls kj14 (Go.bits .or .i64 (wrap64 (t107 * 2147483648)) (ji20)) t118 t119 _ A26.out).mono ?_); rintro e w' ⟨rfl, ⟨nd, rfl⟩⟩; refine ⟨_, rfl, ?_⟩))
                          go_ret2
                          exact ⟨by first | rfl | (simp; done) | (simp only [← hji18, ← hji20, ← hji22] <;> (first | rfl | simp)) | (simp [*]; done), by repeat (first | exact Drawn0.refl _ | apply Drawn0.step)⟩
                        · rw [if_neg c27] at H
                          have c27b0 : (t118 == a0) = false := beq_eq_false_iff_ne.mpr c27
                          have c27b1 : (t118 != a0) = true := bne_iff_ne.mpr c27
                          simp only [Option.some.injEq, Prod.mk.injEq] at H
                          obtain ⟨rfl, rfl⟩ := H
                          go_wp2_with (first | ((with_reducible refine gate_callee (f := 15) rfl ?_); refine goesL_ (some 87) rfl rfl Try.func15 (by kernel_rfl) rfl #[.int .i64 (Go.bits .or .i64 (wrap64 (t107 * 2147483648)) (ji20))] rfl (by (try simp only [List.map_toArray, List.map_cons, List.map_nil]); first | done | (simp only [hji20]; rfl) | rfl | (simp only [List.length_drop, List.length_take]; rfl)) ?_; (with_reducible refine (spec_Widen.calls kj14 (Go.bits .or .i64 (wrap64 (t107 * 2147483648)) (ji20)) t118 t119 _ A26.out).mono ?_); rintro e w' ⟨rfl, ⟨nd, rfl⟩⟩; refine ⟨_, rfl, ?_⟩))
                          go_ret2
                          exact ⟨by first | rfl | (simp; done) | (simp only [← hji18, ← hji20, ← hji22] <;> (first | rfl | simp)) | (simp [*]; done), by repeat (first | exact Drawn0.refl _ | apply Drawn0.step)⟩
                      · rw [if_neg c23] at H
                        have c23b0 : ((ji22) == (wrap64 ((t109 / 536870912) + 8388608))) = false := beq_eq_false_iff_ne.mpr c23
                        have c23b1 : ((ji22) != (wrap64 ((t109 / 536870912) + 8388608))) = true := bne_iff_ne.mpr c23
                        simp only [Option.some.injEq, Prod.mk.injEq] at H
                        obtain ⟨rfl, rfl⟩ := H
                        go_wp2
                        go_ret2
                        exact ⟨by first | rfl | (simp; done) | (simp only [← hji18, ← hji20, ← hji22] <;> (first | rfl | simp)) | (simp [*]; done), by repeat (first | exact Drawn0.refl _ | apply Drawn0.step)⟩
                    · rw [if_neg c19] at H
                      exact absurd H (by simp)
                  · replace c17 := Bool.eq_false_iff.mpr c17
                    subst c17
                    have H1 : (some (0, false)) = some (r1, r2) := by rw [if_neg (show ¬ (false = true) by decide)] at H; exact H
                    clear H
                    have H := H1
                    clear H1
                    simp only [Option.some.injEq, Prod.mk.injEq] at H
                    obtain ⟨rfl, rfl⟩ := H
                    go_wp2
                    go_ret2
                    exact ⟨by first | rfl | (simp; done) | (simp [*]; done), by repeat (first | exact Drawn0.refl _ | apply Drawn0.step)⟩
  · rw [if_neg c3] at H
    have c3b0 : ((Int.tmod t109 536870912) == 0) = false := beq_eq_false_iff_ne.mpr c3
    have c3b1 : ((Int.tmod t109 536870912) != 0) = true := bne_iff_ne.mpr c3
    simp only [Option.some.injEq, Prod.mk.injEq] at H
    obtain ⟨rfl, rfl⟩ := H
    go_enter Try.func31, Try.ntmps31
    go_wp2_with (first | ((with_reducible refine gate_callee (f := 48) rfl ?_); refine goesL_ (some 18) rfl rfl Try.func48 (by kernel_rfl) rfl #[.int .i64 a0, .int .i64 64] rfl (by (try simp only [List.map_toArray, List.map_cons, List.map_nil]); first | done | rfl | (simp only [List.length_drop, List.length_take]; rfl)) ?_; (with_reducible refine (spec_l2Parts.calls k a0 64 t107 t108 t109 t110 t111 _ A2.out).mono ?_); rintro e w' ⟨rfl, ⟨nd, rfl⟩⟩; refine ⟨_, rfl, ?_⟩))
    go_ret2
    exact ⟨by first | rfl | (simp; done) | (simp [*]; done), by repeat (first | exact Drawn0.refl _ | apply Drawn0.step)⟩

/-! ### impl_within: function 55 -/
def impl_within.f (a0 : Int) (a1 : Int) (a2 : Int) : Option (Bool) := if a0 ≥ a1 then (some (decide (a0 ≤ a2))) else (some false)
set_option maxHeartbeats 8000000 in
set_option maxRecDepth 100000 in
theorem impl_within.calls (a0 : Int) (a1 : Int) (a2 : Int) (r : Bool) (w : World) (h : impl_within.f a0 a1 a2 = some r) :
    Calls Try.prog 55 #[.int .i64 a0, .int .i64 a1, .int .i64 a2] w fun e w' => e = .returned (.bool r) ∧ Drawn0 w w' := by
  have H : (if a0 ≥ a1 then (some (decide (a0 ≤ a2))) else (some false)) = some r := h
  clear h
  by_cases c4 : a0 ≥ a1
  · rw [if_pos c4] at H
    have c4b0 : decide (a1 ≤ a0) = true := decide_eq_true c4
    clear c4
    obtain rfl := Option.some.inj H
    go_enter Try.func55, Try.ntmps55
    go_wp2
    go_ret
    exact ⟨by first | rfl | (simp; done) | (simp [*]; done), by repeat (first | exact Drawn0.refl _ | apply Drawn0.step)⟩
  · rw [if_neg c4] at H
    have c4b0 : decide (a1 ≤ a0) = false := decide_eq_false c4
    clear c4
    obtain rfl := Option.some.inj H
    go_enter Try.func55, Try.ntmps55
    go_wp2
    go_ret
    exact ⟨by first | rfl | (simp; done) | (simp [*]; done), by repeat (first | exact Drawn0.refl _ | apply Drawn0.step)⟩

end Go.Proofs.Ytmmdkjihigadcaa.PFnExactNarrow
