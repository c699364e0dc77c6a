/- The functions that FnExactWiden reaches as Lean functions, each with its contract: laid by a program of this session (wip/print2.py) over the kit's print. -/
import Derived.Test.YtmmdkjihigadcaaPFnExactWidenx0
namespace Go.Proofs.Ytmmdkjihigadcaa.PFnExactWiden
open Go.RowKit Go.Proofs.YtmmdkjihigadcaaW.PrintWords Go.Proofs.YtmmdkjihigadcaaW.PrintLast Go.Proofs.YtmmdkjihigadcaaW.PrintMore
attribute [local go_sem] max2_int min2_int max_two min_two max_three min_three max_four min_four   -- for this text's walks alone
set_option linter.unusedVariables false
set_option linter.unusedSimpArgs false

/-! ### spec_l1In: function 71 -/
def spec_l1In.f (a0 : Int) (a1 : Int) (a2 : Int) : Option (Bool) := if a0 ≥ a1 then (some (decide (a0 ≤ a2))) else (some false)
set_option maxHeartbeats 8000000 in
set_option maxRecDepth 100000 in
theorem spec_l1In.calls (a0 : Int) (a1 : Int) (a2 : Int) (r : Bool) (w : World) (h : spec_l1In.f a0 a1 a2 = some r) :
    Calls Try.prog 71 #[.int .i64 a0, .int .i64 a1, .int .i64 a2] w fun e w' => e = .returned (.bool r) ∧ Drawn0 w w' := by
  have H : (if a0 ≥ a1 then (some (decide (a0 ≤ a2))) else (some false)) = some r := h
  clear h
  by_cases c4 : a0 ≥ a1
  · rw [if_pos c4] at H
    have c4b0 : decide (a1 ≤ a0) = true := decide_eq_true c4
    clear c4
    obtain rfl := Option.some.inj H
    go_enter Try.func71, Try.ntmps71
    go_wp2
    go_ret
    exact ⟨by first | rfl | (simp; done) | (simp [*]; done), by repeat (first | exact Drawn0.refl _ | apply Drawn0.step)⟩
  · rw [if_neg c4] at H
    have c4b0 : decide (a1 ≤ a0) = false := decide_eq_false c4
    clear c4
    obtain rfl := Option.some.inj H
    go_enter Try.func71, Try.ntmps71
    go_wp2
    go_ret
    exact ⟨by first | rfl | (simp; done) | (simp [*]; done), by repeat (first | exact Drawn0.refl _ | apply Drawn0.step)⟩

/-! ### spec_l2Parts: function 48 -/
def spec_l2Parts.j0 : Nat → Int → Int → Bool → Option (Int × Int × Int × Int × Bool)
  | 0, _, _, _ => none
  | k + 1, x0, x1, x10 => if x10 = true then (some (x0 / 2147483648, Go.bits .and .i64 (x0 / 8388608) 255, Go.bits .and .i64 x0 8388607, 255, true)) else (if x1 = 64 then (some (wrap64 ((IntKind.u64.wrap (x0)) / 9223372036854775808), wrap64 (Go.bits .and .u64 ((IntKind.u64.wrap (x0)) / 4503599627370496) 2047), wrap64 (Go.bits .and .u64 (IntKind.u64.wrap (x0)) 4503599627370495), 2047, true)) else (some (0, 0, 0, 0, false)))
def spec_l2Parts.f (k : Nat) (a0 : Int) (a1 : Int) : Option (Int × Int × Int × Int × Bool) := if a1 = 32 then ((spec_l1In.f a0 0 4294967295).bind fun t101 => (spec_l2Parts.j0 k a0 a1 t101)) else (spec_l2Parts.j0 k a0 a1 false)
theorem spec_l2Parts.mono_l : ∀ k, (∀ y0 y1 y2, LeO (spec_l2Parts.j0 k y0 y1 y2) (spec_l2Parts.j0 (k + 1) y0 y1 y2))
  | 0 => fun _ _ _ r h => by simp [spec_l2Parts.j0] at h
  | k + 1 => by
    have ih0 := spec_l2Parts.mono_l k
    · intro y0 y1 y2
      unfold spec_l2Parts.j0
      repeat' first
      | (with_reducible exact ih0 _ _ _)
      | (with_reducible exact LeO.refl _)
      | (with_reducible exact LeO.none _)
      | (with_reducible refine LeO.ite ?_ ?_)
      | (with_reducible refine LeO.bind ?_ (fun _ => ?_))
      | exact ih0 _ _ _
      | exact LeO.none _
      | refine LeO.ite ?_ ?_
      | refine LeO.bind ?_ (fun _ => ?_)
theorem spec_l2Parts.mono : ∀ a0 a1 k, LeO (spec_l2Parts.f k a0 a1) (spec_l2Parts.f (k + 1) a0 a1) := by
  intro a0 a1 k
  have ih0 := spec_l2Parts.mono_l k
  unfold spec_l2Parts.f
  repeat' first
      | (with_reducible exact ih0 _ _ _)
      | (with_reducible exact LeO.refl _)
      | (with_reducible exact LeO.none _)
      | (with_reducible refine LeO.ite ?_ ?_)
      | (with_reducible refine LeO.bind ?_ (fun _ => ?_))
      | exact ih0 _ _ _
      | exact LeO.none _
      | refine LeO.ite ?_ ?_
      | refine LeO.bind ?_ (fun _ => ?_)
set_option maxHeartbeats 8000000 in
set_option maxRecDepth 100000 in
theorem spec_l2Parts.calls (k : Nat) (a0 : Int) (a1 : Int) (r1 : Int) (r2 : Int) (r3 : Int) (r4 : Int) (r5 : Bool) (w : World) (h : spec_l2Parts.f k a0 a1 = some (r1, r2, r3, r4, r5)) :
    Calls Try.prog 48 #[.int .i64 a0, .int .i64 a1] w fun e w' => e = .returned (.tuple #[.int .i64 r1, .int .i64 r2, .int .i64 r3, .int .i64 r4, .bool r5]) ∧ Drawn0 w w' := by
  have H : (if a1 = 32 then ((spec_l1In.f a0 0 4294967295).bind fun t101 => (spec_l2Parts.j0 k a0 a1 t101)) else (spec_l2Parts.j0 k a0 a1 false)) = some (r1, r2, r3, r4, r5) := h
  clear h
  have HC3 := Aside0.mk H
  clear H
  go_enter Try.func48, Try.ntmps48
  go_upto_region 1 with (fail)
  go_cut [10] (fun v10 wc => ∃ (kq : Nat) (x10_2 : Bool), v10 = .bool x10_2 ∧ Aside0 (spec_l2Parts.j0 kq a0 a1 x10_2 = some (r1, r2, r3, r4, r5)) ∧ Aside0 (kq ≤ k) ∧ Drawn0 w wc)
  case first =>
    have H := HC3.out
    clear HC3
    by_cases c4 : a1 = 32
    · rw [if_pos c4] at H
      have c4b0 : (a1 == 32) = true := beq_iff_eq.mpr c4
      have c4b1 : (a1 != 32) = false := bne_eq_false_iff_eq.mpr c4
      clear c4
      (first | rw [c4b0] | (simp only [i64_w, i32_w]; rw [c4b0]) | skip)
      replace H := Option.bind_eq_some_iff.mp H
      obtain ⟨t101, A50, H⟩ := H
      replace H : (spec_l2Parts.j0 k a0 a1 t101) = some (r1, r2, r3, r4, r5) := H
      have A5 := Aside0.mk A50
      clear A50
      have H' := Aside0.mk H
      clear H
      go_wp2_with (first | (go_at_call 71; (with_reducible refine (spec_l1In.calls a0 0 4294967295 t101 _ A5.out).mono ?_); rintro e w' ⟨rfl, ⟨nd, rfl⟩⟩))
      go_meet
      case rel => exact ⟨_, (t101), (by first | rfl | (simp; done) | (simp [*]; done)), H', ⟨by first | omega | exact Nat.le_refl _⟩, by repeat (first | exact Drawn0.refl _ | apply Drawn0.step)⟩
    · rw [if_neg c4] at H
      have c4b0 : (a1 == 32) = false := beq_eq_false_iff_ne.mpr c4
      have c4b1 : (a1 != 32) = true := bne_iff_ne.mpr c4
      (first | rw [c4b0] | (simp only [i64_w, i32_w]; rw [c4b0]) | skip)
      have H' := Aside0.mk H
      clear H
      go_wp2
      go_meet
      case rel => exact ⟨_, (false), (by first | rfl | (simp; done) | (simp [*]; done)), H', ⟨by first | omega | exact Nat.le_refl _⟩, by repeat (first | exact Drawn0.refl _ | apply Drawn0.step)⟩
  case rest =>
    clear HC3
    try clear p2
    try clear c4
    try clear c4b0
    try clear c4b1
    obtain ⟨kq, x10_2, rfl, HA, HJ2, ⟨mc2, rfl⟩⟩ := hcut
    cases kq with
    | zero => exact absurd HA.out (by simp [spec_l2Parts.j0])
    | succ kj2 =>
      have H := HA.out
      clear HA
      simp only [spec_l2Parts.j0] at H
      by_cases c6 : x10_2 = true
      · subst c6
        have H1 : (some (a0 / 2147483648, Go.bits .and .i64 (a0 / 8388608) 255, Go.bits .and .i64 a0 8388607, 255, true)) = some (r1, r2, r3, r4, r5) := by rw [if_pos rfl] at H; exact H
        clear H
        have H := H1
        clear H1
        simp only [Option.some.injEq, Prod.mk.injEq] at H
        obtain ⟨rfl, rfl, rfl, rfl, rfl⟩ := H
        go_wp2
        refine bodyPost_ret (results_list (rs := [.tmp 4, .tmp 5, .tmp 6, .tmp 7, .tmp 8]) rfl (by simp) (.tmp (.tmp (.tmp (.tmp (.tmp .nil)))))) rfl ?_
        exact ⟨by first | rfl | (simp; done) | (simp [*]; done), by repeat (first | exact Drawn0.refl _ | apply Drawn0.step)⟩
      · replace c6 := Bool.eq_false_iff.mpr c6
        subst c6
        have H1 : (if a1 = 64 then (some (wrap64 ((IntKind.u64.wrap (a0)) / 9223372036854775808), wrap64 (Go.bits .and .u64 ((IntKind.u64.wrap (a0)) / 4503599627370496) 2047), wrap64 (Go.bits .and .u64 (IntKind.u64.wrap (a0)) 4503599627370495), 2047, true)) else (some (0, 0, 0, 0, false))) = some (r1, r2, r3, r4, r5) := by rw [if_neg (show ¬ (false = true) by decide)] at H; exact H
        clear H
        have H := H1
        clear H1
        by_cases c7 : a1 = 64
        · rw [if_pos c7] at H
          have c7b0 : (a1 == 64) = true := beq_iff_eq.mpr c7
          have c7b1 : (a1 != 64) = false := bne_eq_false_iff_eq.mpr c7
          clear c7
          simp only [Option.some.injEq, Prod.mk.injEq] at H
          obtain ⟨rfl, rfl, rfl, rfl, rfl⟩ := H
          go_wp2
          refine bodyPost_ret (results_list (rs := [.tmp 4, .tmp 5, .tmp 6, .tmp 7, .tmp 8]) rfl (by simp) (.tmp (.tmp (.tmp (.tmp (.tmp .nil)))))) rfl ?_
          exact ⟨by first | rfl | (simp; done) | (simp [*]; done), by repeat (first | exact Drawn0.refl _ | apply Drawn0.step)⟩
        · rw [if_neg c7] at H
          have c7b0 : (a1 == 64) = false := beq_eq_false_iff_ne.mpr c7
          have c7b1 : (a1 != 64) = true := bne_iff_ne.mpr c7
          simp only [Option.some.injEq, Prod.mk.injEq] at H
          obtain ⟨rfl, rfl, rfl, rfl, rfl⟩ := H
          go_wp2
          refine bodyPost_ret (results_list (rs := [.tmp 4, .tmp 5, .tmp 6, .tmp 7, .tmp 8]) rfl (by simp) (.tmp (.tmp (.tmp (.tmp (.tmp .nil)))))) rfl ?_
          exact ⟨by first | rfl | (simp; done) | (simp [*]; done), by repeat (first | exact Drawn0.refl _ | apply Drawn0.step)⟩

/-! ### spec_Widen: function 15 -/
mutual
def spec_Widen.j0 : Nat → Int → Int → Int → Bool → Option (Int × Bool)
  | 0, _, _, _, _ => none
  | k + 1, x5, x6, x9, x39 => if x39 = true then (some (wrap64 (x9), true)) else (if x5 = 0 then (spec_Widen.l0 k x9 1 x6) else (some (wrap64 (Go.bits .or .u64 (Go.bits .or .u64 x9 (IntKind.u64.wrap ((IntKind.u64.wrap (wrap64 ((wrap64 (x5 - 127)) + 1023))) * 4503599627370496))) (IntKind.u64.wrap ((IntKind.u64.wrap (x6)) * 536870912))), true)))
def spec_Widen.l0 : Nat → Int → Int → Int → Option (Int × Bool)
  | 0, _, _, _ => none
  | k + 1, x9, x10, x11 => if x11 < 8388608 then (spec_Widen.l0 k x9 (wrap64 (x10 - 1)) (wrap64 (x11 * 2))) else (some (wrap64 (Go.bits .or .u64 (Go.bits .or .u64 x9 (IntKind.u64.wrap ((IntKind.u64.wrap (wrap64 ((wrap64 (x10 - 127)) + 1023))) * 4503599627370496))) (IntKind.u64.wrap ((IntKind.u64.wrap (wrap64 (x11 - 8388608))) * 536870912))), true))
end
def spec_Widen.f (k : Nat) (a0 : Int) : Option (Int × Bool) := (spec_l2Parts.f k a0 32).bind fun bt102 => (if bt102.2.2.2.2 = true then (if bt102.2.1 = 255 then (some (wrap64 (Go.bits .or .u64 (Go.bits .or .u64 (IntKind.u64.wrap ((IntKind.u64.wrap (bt102.1)) * 9223372036854775808)) 9218868437227405312) (IntKind.u64.wrap ((IntKind.u64.wrap (bt102.2.2.1)) * 536870912))), true)) else (if bt102.2.1 = 0 then (spec_Widen.j0 k bt102.2.1 bt102.2.2.1 (IntKind.u64.wrap ((IntKind.u64.wrap (bt102.1)) * 9223372036854775808)) (bt102.2.2.1 == 0)) else (spec_Widen.j0 k bt102.2.1 bt102.2.2.1 (IntKind.u64.wrap ((IntKind.u64.wrap (bt102.1)) * 9223372036854775808)) false))) else (some (0, false)))
theorem spec_Widen.mono_l : ∀ k, (∀ y0 y1 y2 y3, LeO (spec_Widen.j0 k y0 y1 y2 y3) (spec_Widen.j0 (k + 1) y0 y1 y2 y3)) ∧ (∀ y0 y1 y2, LeO (spec_Widen.l0 k y0 y1 y2) (spec_Widen.l0 (k + 1) y0 y1 y2))
  | 0 => ⟨fun _ _ _ _ r h => by simp [spec_Widen.j0] at h, fun _ _ _ r h => by simp [spec_Widen.l0] at h⟩
  | k + 1 => by
    obtain ⟨ih0, ih1⟩ := spec_Widen.mono_l k
    refine ⟨?_, ?_⟩
    · intro y0 y1 y2 y3
      unfold spec_Widen.j0
      repeat' first
      | (with_reducible exact ih0 _ _ _ _)
      | (with_reducible exact ih1 _ _ _)
      | (with_reducible exact spec_l2Parts.mono _ _ _)
      | (with_reducible exact LeO.refl _)
      | (with_reducible exact LeO.none _)
      | (with_reducible refine LeO.ite ?_ ?_)
      | (with_reducible refine LeO.bind ?_ (fun _ => ?_))
      | exact ih0 _ _ _ _
      | exact ih1 _ _ _
      | exact spec_l2Parts.mono _ _ _
      | exact LeO.none _
      | refine LeO.ite ?_ ?_
      | refine LeO.bind ?_ (fun _ => ?_)
    · intro y0 y1 y2
      unfold spec_Widen.l0
      repeat' first
      | (with_reducible exact ih0 _ _ _ _)
      | (with_reducible exact ih1 _ _ _)
      | (with_reducible exact spec_l2Parts.mono _ _ _)
      | (with_reducible exact LeO.refl _)
      | (with_reducible exact LeO.none _)
      | (with_reducible refine LeO.ite ?_ ?_)
      | (with_reducible refine LeO.bind ?_ (fun _ => ?_))
      | exact ih0 _ _ _ _
      | exact ih1 _ _ _
      | exact spec_l2Parts.mono _ _ _
      | exact LeO.none _
      | refine LeO.ite ?_ ?_
      | refine LeO.bind ?_ (fun _ => ?_)
theorem spec_Widen.mono : ∀ a0 k, LeO (spec_Widen.f k a0) (spec_Widen.f (k + 1) a0) := by
  intro a0 k
  obtain ⟨ih0, ih1⟩ := spec_Widen.mono_l k
  unfold spec_Widen.f
  repeat' first
      | (with_reducible exact ih0 _ _ _ _)
      | (with_reducible exact ih1 _ _ _)
      | (with_reducible exact spec_l2Parts.mono _ _ _)
      | (with_reducible exact LeO.refl _)
      | (with_reducible exact LeO.none _)
      | (with_reducible refine LeO.ite ?_ ?_)
      | (with_reducible refine LeO.bind ?_ (fun _ => ?_))
      | exact ih0 _ _ _ _
      | exact ih1 _ _ _
      | exact spec_l2Parts.mono _ _ _
      | exact LeO.none _
      | refine LeO.ite ?_ ?_
      | refine LeO.bind ?_ (fun _ => ?_)
set_option maxHeartbeats 8000000 in
set_option maxRecDepth 100000 in
theorem spec_Widen.calls (k : Nat) (a0 : Int) (r1 : Int) (r2 : Bool) (w : World) (h : spec_Widen.f k a0 = some (r1, r2)) :
    Calls Try.prog 15 #[.int .i64 a0] w fun e w' => e = .returned (.tuple #[.int .i64 r1, .bool r2]) ∧ Drawn0 w w' := by
  have H : ((spec_l2Parts.f k a0 32).bind fun bt102 => (if bt102.2.2.2.2 = true then (if bt102.2.1 = 255 then (some (wrap64 (Go.bits .or .u64 (Go.bits .or .u64 (IntKind.u64.wrap ((IntKind.u64.wrap (bt102.1)) * 9223372036854775808)) 9218868437227405312) (IntKind.u64.wrap ((IntKind.u64.wrap (bt102.2.2.1)) * 536870912))), true)) else (if bt102.2.1 = 0 then (spec_Widen.j0 k bt102.2.1 bt102.2.2.1 (IntKind.u64.wrap ((IntKind.u64.wrap (bt102.1)) * 9223372036854775808)) (bt102.2.2.1 == 0)) else (spec_Widen.j0 k bt102.2.1 bt102.2.2.1 (IntKind.u64.wrap ((IntKind.u64.wrap (bt102.1)) * 9223372036854775808)) false))) else (some (0, false)))) = some (r1, r2) := h
  clear h
  replace H := Option.bind_eq_some_iff.mp H
  obtain ⟨⟨t102, t103, t104, t105, t106⟩, A20, H⟩ := H
  replace H : (if t106 = true then (if t103 = 255 then (some (wrap64 (Go.bits .or .u64 (Go.bits .or .u64 (IntKind.u64.wrap ((IntKind.u64.wrap (t102)) * 9223372036854775808)) 9218868437227405312) (IntKind.u64.wrap ((IntKind.u64.wrap (t104)) * 536870912))), true)) else (if t103 = 0 then (spec_Widen.j0 k t103 t104 (IntKind.u64.wrap ((IntKind.u64.wrap (t102)) * 9223372036854775808)) (t104 == 0)) else (spec_Widen.j0 k t103 t104 (IntKind.u64.wrap ((IntKind.u64.wrap (t102)) * 9223372036854775808)) false))) else (some (0, false))) = some (r1, r2) := H
  have A2 := Aside0.mk A20
  clear A20
  by_cases c3 : t106 = true
  · subst c3
    have H1 : (if t103 = 255 then (some (wrap64 (Go.bits .or .u64 (Go.bits .or .u64 (IntKind.u64.wrap ((IntKind.u64.wrap (t102)) * 9223372036854775808)) 9218868437227405312) (IntKind.u64.wrap ((IntKind.u64.wrap (t104)) * 536870912))), true)) else (if t103 = 0 then (spec_Widen.j0 k t103 t104 (IntKind.u64.wrap ((IntKind.u64.wrap (t102)) * 9223372036854775808)) (t104 == 0)) else (spec_Widen.j0 k t103 t104 (IntKind.u64.wrap ((IntKind.u64.wrap (t102)) * 9223372036854775808)) false))) = some (r1, r2) := by rw [if_pos rfl] at H; exact H
    clear H
    have H := H1
    clear H1
    by_cases c4 : t103 = 255
    · rw [if_pos c4] at H
      have c4b0 : (t103 == 255) = true := beq_iff_eq.mpr c4
      have c4b1 : (t103 != 255) = false := bne_eq_false_iff_eq.mpr c4
      clear c4
      simp only [Option.some.injEq, Prod.mk.injEq] at H
      obtain ⟨rfl, rfl⟩ := H
      go_enter Try.func15, Try.ntmps15
      go_wp2_with (first | ((with_reducible refine gate_callee (f := 48) rfl ?_); refine goesL_ (some 14) rfl rfl Try.func48 (by kernel_rfl) rfl #[.int .i64 a0, .int .i64 32] rfl (by (try simp only [List.map_toArray, List.map_cons, List.map_nil]); first | done | rfl | (simp only [List.length_drop, List.length_take]; rfl)) ?_; (with_reducible refine (spec_l2Parts.calls k a0 32 t102 t103 t104 t105 true _ A2.out).mono ?_); rintro e w' ⟨rfl, ⟨nd, rfl⟩⟩; refine ⟨_, rfl, ?_⟩))
      go_ret2
      exact ⟨by first | rfl | (simp; done) | (simp [*]; done), by repeat (first | exact Drawn0.refl _ | apply Drawn0.step)⟩
    · rw [if_neg c4] at H
      have c4b0 : (t103 == 255) = false := beq_eq_false_iff_ne.mpr c4
      have c4b1 : (t103 != 255) = true := bne_iff_ne.mpr c4
      have HC5 := Aside0.mk H
      clear H
      go_enter Try.func15, Try.ntmps15
      go_upto_region 7 with (first | ((with_reducible refine gate_callee (f := 48) rfl ?_); refine goesL_ (some 14) rfl rfl Try.func48 (by kernel_rfl) rfl #[.int .i64 a0, .int .i64 32] rfl (by (try simp only [List.map_toArray, List.map_cons, List.map_nil]); first | done | rfl | (simp only [List.length_drop, List.length_take]; rfl)) ?_; (with_reducible refine (spec_l2Parts.calls k a0 32 t102 t103 t104 t105 true _ A2.out).mono ?_); rintro e w' ⟨rfl, ⟨nd, rfl⟩⟩; refine ⟨_, rfl, ?_⟩))
      (try simp only [Act.put, List.setIfInBounds_toArray, List.set_cons_zero, List.set_cons_succ])
      go_cut [39] (fun v39 wc => ∃ (kq : Nat) (x39_4 : Bool), v39 = .bool x39_4 ∧ Aside0 (spec_Widen.j0 kq t103 t104 (IntKind.u64.wrap ((IntKind.u64.wrap (t102)) * 9223372036854775808)) x39_4 = some (r1, r2)) ∧ Aside0 (kq ≤ k) ∧ Drawn0 w wc)
      case first =>
        have H := HC5.out
        clear HC5
        by_cases c6 : t103 = 0
        · rw [if_pos c6] at H
          have c6b0 : (t103 == 0) = true := beq_iff_eq.mpr c6
          have c6b1 : (t103 != 0) = false := bne_eq_false_iff_eq.mpr c6
          clear c6
          (first | rw [c6b0] | (simp only [i64_w, i32_w]; rw [c6b0]) | skip)
          have H' := Aside0.mk H
          clear H
          go_wp2
          go_meet
          case rel => exact ⟨_, ((t104 == 0)), (by first | rfl | (simp; done) | (simp [*]; done)), H', ⟨by first | omega | exact Nat.le_refl _⟩, by repeat (first | exact Drawn0.refl _ | apply Drawn0.step)⟩
        · rw [if_neg c6] at H
          have c6b0 : (t103 == 0) = false := beq_eq_false_iff_ne.mpr c6
          have c6b1 : (t103 != 0) = true := bne_iff_ne.mpr c6
          (first | rw [c6b0] | (simp only [i64_w, i32_w]; rw [c6b0]) | skip)
          have H' := Aside0.mk H
          clear H
          go_wp2
          go_meet
          case rel => exact ⟨_, (false), (by first | rfl | (simp; done) | (simp [*]; done)), H', ⟨by first | omega | exact Nat.le_refl _⟩, by repeat (first | exact Drawn0.refl _ | apply Drawn0.step)⟩
      case rest =>
        clear HC5
        try clear c1
        try clear p2
        try clear c3
        try clear c4
        try clear c4b0
        try clear c4b1
        try clear c6
        try clear c6b0
        try clear c6b1
        try clear p6
        obtain ⟨kq, x39_4, rfl, HA, HJ4, ⟨mc4, rfl⟩⟩ := hcut
        cases kq with
        | zero => exact absurd HA.out (by simp [spec_Widen.j0])
        | succ kj4 =>
          have H := HA.out
          clear HA
          simp only [spec_Widen.j0] at H
          by_cases c7 : x39_4 = true
          · subst c7
            have H1 : (some (wrap64 ((IntKind.u64.wrap ((IntKind.u64.wrap (t102)) * 9223372036854775808))), true)) = some (r1, r2) := by rw [if_pos rfl] at H; exact H
            clear H
            have H := H1
            clear H1
            simp only [Option.some.injEq, Prod.mk.injEq] at H
            obtain ⟨rfl, rfl⟩ := H
            go_wp2
            go_ret2
            exact ⟨by first | rfl | (simp; done) | (simp [*]; done), by repeat (first | exact Drawn0.refl _ | apply Drawn0.step)⟩
          · replace c7 := Bool.eq_false_iff.mpr c7
            subst c7
            have H1 : (if t103 = 0 then (spec_Widen.l0 kj4 (IntKind.u64.wrap ((IntKind.u64.wrap (t102)) * 9223372036854775808)) 1 t104) else (some (wrap64 (Go.bits .or .u64 (Go.bits .or .u64 (IntKind.u64.wrap ((IntKind.u64.wrap (t102)) * 9223372036854775808)) (IntKind.u64.wrap ((IntKind.u64.wrap (wrap64 ((wrap64 (t103 - 127)) + 1023))) * 4503599627370496))) (IntKind.u64.wrap ((IntKind.u64.wrap (t104)) * 536870912))), true))) = some (r1, r2) := by rw [if_neg (show ¬ (false = true) by decide)] at H; exact H
            clear H
            have H := H1
            clear H1
            by_cases c8 : t103 = 0
            · rw [if_pos c8] at H
              have c8b0 : (t103 == 0) = true := beq_iff_eq.mpr c8
              have c8b1 : (t103 != 0) = false := bne_eq_false_iff_eq.mpr c8
              clear c8
              have H' := Aside0.mk H
              clear H
              go_wp2
              go_loopg [10, 11] kj4 (fun kq v10 v11 w' => ∃ (x10_2 : Int) (x11_2 : Int), v10 = .int .i64 x10_2 ∧ v11 = .int .i64 x11_2 ∧ Aside0 (spec_Widen.l0 kq (IntKind.u64.wrap ((IntKind.u64.wrap (t102)) * 9223372036854775808)) x10_2 x11_2 = some (r1, r2)) ∧ Aside0 (kq ≤ kj4) ∧ Drawn0 w w')
              case atStart => exact ⟨(1), (t104), (by first | rfl | (simp; done) | (simp [*]; done)), (by first | rfl | (simp; done) | (simp [*]; done)), H', ⟨Nat.le_refl _⟩, by repeat (first | exact Drawn0.refl _ | apply Drawn0.step)⟩
              case round =>
                clear H'
                try clear c1
                try clear p2
                try clear c3
                try clear c4
                try clear c4b0
                try clear c4b1
                try clear c6
                try clear c6b0
                try clear c6b1
                try clear p6
                try clear c7
                try clear c8
                try clear c8b0
                try clear c8b1
                try clear p2
                try clear p6
                obtain ⟨x10_2, x11_2, rfl, rfl, HA, HK2, ⟨m2, rfl⟩⟩ := hrel
                cases gk with
                | zero => exact absurd HA.out (by simp [spec_Widen.l0])
                | succ k2 =>
                  have H := HA.out
                  clear HA
                  simp only [spec_Widen.l0] at H
                  by_cases c9 : x11_2 < 8388608
                  · rw [if_pos c9] at H
                    have c9b0 : decide (x11_2 < 8388608) = true := decide_eq_true c9
                    clear c9
                    have H' := Aside0.mk H
                    clear H
                    go_wp2
                    go_roundg k2
                    case measure => have := HJ4.out; have := HK2.out; omega
                    case rel => exact ⟨(wrap64 (x10_2 - 1)), (wrap64 (x11_2 * 2)), (by first | rfl | (simp; done) | (simp [*]; done)), (by first | rfl | (simp; done) | (simp [*]; done)), H', ⟨by have := HJ4.out; have := HK2.out; omega⟩, by repeat (first | exact Drawn0.refl _ | apply Drawn0.step)⟩
                  · rw [if_neg c9] at H
                    have c9b0 : decide (x11_2 < 8388608) = false := decide_eq_false c9
                    clear c9
                    simp only [Option.some.injEq, Prod.mk.injEq] at H
                    obtain ⟨rfl, rfl⟩ := H
                    go_wp2
                    go_ret2
                    exact ⟨by first | rfl | (simp; done) | (simp [*]; done), by repeat (first | exact Drawn0.refl _ | apply Drawn0.step)⟩
            · rw [if_neg c8] at H
              have c8b0 : (t103 == 0) = false := beq_eq_false_iff_ne.mpr c8
              have c8b1 : (t103 != 0) = true := bne_iff_ne.mpr c8
              simp only [Option.some.injEq, Prod.mk.injEq] at H
              obtain ⟨rfl, rfl⟩ := H
              go_wp2
              go_ret2
              exact ⟨by first | rfl | (simp; done) | (simp [*]; done), by repeat (first | exact Drawn0.refl _ | apply Drawn0.step)⟩
  · replace c3 := Bool.eq_false_iff.mpr c3
    subst c3
    have H1 : (some (0, false)) = some (r1, r2) := by rw [if_neg (show ¬ (false = true) by decide)] at H; exact H
    clear H
    have H := H1
    clear H1
    simp only [Option.some.injEq, Prod.mk.injEq] at H
    obtain ⟨rfl, rfl⟩ := H
    go_enter Try.func15, Try.ntmps15
    go_wp2_with (first | ((with_reducible refine gate_callee (f := 48) rfl ?_); refine goesL_ (some 14) rfl rfl Try.func48 (by kernel_rfl) rfl #[.int .i64 a0, .int .i64 32] rfl (by (try simp only [List.map_toArray, List.map_cons, List.map_nil]); first | done | rfl | (simp only [List.length_drop, List.length_take]; rfl)) ?_; (with_reducible refine (spec_l2Parts.calls k a0 32 t102 t103 t104 t105 false _ A2.out).mono ?_); rintro e w' ⟨rfl, ⟨nd, rfl⟩⟩; refine ⟨_, rfl, ?_⟩))
    go_ret2
    exact ⟨by first | rfl | (simp; done) | (simp [*]; done), by repeat (first | exact Drawn0.refl _ | apply Drawn0.step)⟩

/-! ### impl_within: function 55 -/
def impl_within.f (a0 : Int) (a1 : Int) (a2 : Int) : Option (Bool) := if a0 ≥ a1 then (some (decide (a0 ≤ a2))) else (some false)
set_option maxHeartbeats 8000000 in
set_option maxRecDepth 100000 in
theorem impl_within.calls (a0 : Int) (a1 : Int) (a2 : Int) (r : Bool) (w : World) (h : impl_within.f a0 a1 a2 = some r) :
    Calls Try.prog 55 #[.int .i64 a0, .int .i64 a1, .int .i64 a2] w fun e w' => e = .returned (.bool r) ∧ Drawn0 w w' := by
  have H : (if a0 ≥ a1 then (some (decide (a0 ≤ a2))) else (some false)) = some r := h
  clear h
  by_cases c4 : a0 ≥ a1
  · rw [if_pos c4] at H
    have c4b0 : decide (a1 ≤ a0) = true := decide_eq_true c4
    clear c4
    obtain rfl := Option.some.inj H
    go_enter Try.func55, Try.ntmps55
    go_wp2
    go_ret
    exact ⟨by first | rfl | (simp; done) | (simp [*]; done), by repeat (first | exact Drawn0.refl _ | apply Drawn0.step)⟩
  · rw [if_neg c4] at H
    have c4b0 : decide (a1 ≤ a0) = false := decide_eq_false c4
    clear c4
    obtain rfl := Option.some.inj H
    go_enter Try.func55, Try.ntmps55
    go_wp2
    go_ret
    exact ⟨by first | rfl | (simp; done) | (simp [*]; done), by repeat (first | exact Drawn0.refl _ | apply Drawn0.step)⟩

/-! ### impl_partsOf: function 49 -/
def impl_partsOf.j0 : Nat → Int → Int → Bool → Option (Bool × Int × Int × Int × Bool)
  | 0, _, _, _ => none
  | k + 1, x0, x1, x6 => if x6 = true then (some (((x0 / 2147483648) == 1), Go.bits .and .i64 (x0 / 8388608) 255, Go.bits .and .i64 x0 8388607, 255, true)) else (if x1 = 64 then (some (decide (x0 < 0), Go.bits .and .i64 (x0 / 4503599627370496) 2047, Go.bits .and .i64 x0 4503599627370495, 2047, true)) else (some (false, 0, 0, 0, false)))
def impl_partsOf.f (k : Nat) (a0 : Int) (a1 : Int) : Option (Bool × Int × Int × Int × Bool) := if a1 = 32 then ((impl_within.f a0 0 4294967295).bind fun t108 => (impl_partsOf.j0 k a0 a1 t108)) else (impl_partsOf.j0 k a0 a1 false)
theorem impl_partsOf.mono_l : ∀ k, (∀ y0 y1 y2, LeO (impl_partsOf.j0 k y0 y1 y2) (impl_partsOf.j0 (k + 1) y0 y1 y2))
  | 0 => fun _ _ _ r h => by simp [impl_partsOf.j0] at h
  | k + 1 => by
    have ih0 := impl_partsOf.mono_l k
    · intro y0 y1 y2
      unfold impl_partsOf.j0
      repeat' first
      | (with_reducible exact ih0 _ _ _)
      | (with_reducible exact LeO.refl _)
      | (with_reducible exact LeO.none _)
      | (with_reducible refine LeO.ite ?_ ?_)
      | (with_reducible refine LeO.bind ?_ (fun _ => ?_))
      | exact ih0 _ _ _
      | exact LeO.none _
      | refine LeO.ite ?_ ?_
      | refine LeO.bind ?_ (fun _ => ?_)
theorem impl_partsOf.mono : ∀ a0 a1 k, LeO (impl_partsOf.f k a0 a1) (impl_partsOf.f (k + 1) a0 a1) := by
  intro a0 a1 k
  have ih0 := impl_partsOf.mono_l k
  unfold impl_partsOf.f
  repeat' first
      | (with_reducible exact ih0 _ _ _)
      | (with_reducible exact LeO.refl _)
      | (with_reducible exact LeO.none _)
      | (with_reducible refine LeO.ite ?_ ?_)
      | (with_reducible refine LeO.bind ?_ (fun _ => ?_))
      | exact ih0 _ _ _
      | exact LeO.none _
      | refine LeO.ite ?_ ?_
      | refine LeO.bind ?_ (fun _ => ?_)
set_option maxHeartbeats 8000000 in
set_option maxRecDepth 100000 in
theorem impl_partsOf.calls (k : Nat) (a0 : Int) (a1 : Int) (r1 : Bool) (r2 : Int) (r3 : Int) (r4 : Int) (r5 : Bool) (w : World) (h : impl_partsOf.f k a0 a1 = some (r1, r2, r3, r4, r5)) :
    Calls Try.prog 49 #[.int .i64 a0, .int .i64 a1] w fun e w' => e = .returned (.tuple #[.agg #[.bool r1, .int .i64 r2, .int .i64 r3, .int .i64 r4], .bool r5]) ∧ Below w.heap.size w w' := by
  have hu53 := Try.underlying53
  have HB := Aside0.mk (Below.refl w.heap.size w)
  have H : (if a1 = 32 then ((impl_within.f a0 0 4294967295).bind fun t108 => (impl_partsOf.j0 k a0 a1 t108)) else (impl_partsOf.j0 k a0 a1 false)) = some (r1, r2, r3, r4, r5) := h
  clear h
  have HC3 := Aside0.mk H
  clear H
  go_enter Try.func49, Try.ntmps49
  go_upto_region 1 with (first | ((with_reducible refine gate_dst (N := 4) rfl ?_); refine box_event ?hg (N := 4) ?hd (cs := #[.bool false, .int .i64 0, .int .i64 0, .int .i64 0]) (t := 53) ?hr ?_; (case hd => rfl); (case hg => rfl); (case hr => first | (go_simp; done) | (go_simp; rfl)); intro gb107 hg w4 hbox hb; have n0_ := Aside0.mk (below_step (by repeat (first | (with_reducible first | exact HB.out | apply below_alloc | apply pw_below_drewN | apply below_drew1) | exact HB.out)) hb); have n1_ := Aside0.mk (hbox); have n2_ := Aside0.mk ((by rw [hg]; exact (below_size (by repeat (first | (with_reducible first | exact HB.out | apply below_alloc | apply pw_below_drewN | apply below_drew1) | exact HB.out))) : w.heap.size ≤ gb107)); have n3_ := Aside0.mk ((by rw [hg]; exact (below_size (by repeat (first | (with_reducible first | exact HB.out | apply below_alloc | apply pw_below_drewN | apply below_drew1) | exact HB.out))) : w.heap.size ≤ gb107)); clear HB; have HB := n0_; have BK107 := n1_; have GW107 := n2_; have GE107 := n3_; clear n0_ n1_ n2_ n3_; clear hb hbox hg))
  (try simp only [Act.put, List.setIfInBounds_toArray, List.set_cons_zero, List.set_cons_succ])
  go_cut [6] (fun v6 wc => ∃ (kq : Nat) (x6_2 : Bool), v6 = .bool x6_2 ∧ Aside0 (impl_partsOf.j0 kq a0 a1 x6_2 = some (r1, r2, r3, r4, r5)) ∧ Aside0 (kq ≤ k) ∧ Aside0 (wc.heap[gb107]? = some (.cells #[.bool false, .int .i64 0, .int .i64 0, .int .i64 0] 53 (0, 0))) ∧ Aside0 (Below w.heap.size w wc))
  case first =>
    have H := HC3.out
    clear HC3
    by_cases c5 : a1 = 32
    · rw [if_pos c5] at H
      have c5b0 : (a1 == 32) = true := beq_iff_eq.mpr c5
      have c5b1 : (a1 != 32) = false := bne_eq_false_iff_eq.mpr c5
      clear c5
      (first | rw [c5b0] | (simp only [i64_w, i32_w]; rw [c5b0]) | skip)
      replace H := Option.bind_eq_some_iff.mp H
      obtain ⟨t108, A60, H⟩ := H
      replace H : (impl_partsOf.j0 k a0 a1 t108) = some (r1, r2, r3, r4, r5) := H
      have A6 := Aside0.mk A60
      clear A60
      have H' := Aside0.mk H
      clear H
      go_wp2_with (first | (go_at_call 55; (with_reducible refine (impl_within.calls a0 0 4294967295 t108 _ A6.out).mono ?_); rintro e w' ⟨rfl, ⟨nd, rfl⟩⟩))
      go_meet
      case rel => exact ⟨_, (t108), (by first | rfl | (simp; done) | (simp [*]; done)), H', ⟨by first | omega | exact Nat.le_refl _⟩, ⟨by (with_reducible repeat (first | refine blk_drewN ?_ _ | refine blk_drew ?_ | refine blk_alloc ?_ _)); exact BK107.out⟩, ⟨by repeat (first | (with_reducible first | exact HB.out | apply below_alloc | apply pw_below_drewN | apply below_drew1 | refine below_set ?_ GE107.out) | exact HB.out)⟩⟩
    · rw [if_neg c5] at H
      have c5b0 : (a1 == 32) = false := beq_eq_false_iff_ne.mpr c5
      have c5b1 : (a1 != 32) = true := bne_iff_ne.mpr c5
      (first | rw [c5b0] | (simp only [i64_w, i32_w]; rw [c5b0]) | skip)
      have H' := Aside0.mk H
      clear H
      go_wp2
      go_meet
      case rel => exact ⟨_, (false), (by first | rfl | (simp; done) | (simp [*]; done)), H', ⟨by first | omega | exact Nat.le_refl _⟩, ⟨by (with_reducible repeat (first | refine blk_drewN ?_ _ | refine blk_drew ?_ | refine blk_alloc ?_ _)); exact BK107.out⟩, ⟨by repeat (first | (with_reducible first | exact HB.out | apply below_alloc | apply pw_below_drewN | apply below_drew1 | refine below_set ?_ GE107.out) | exact HB.out)⟩⟩
  case rest =>
    clear HC3
    try clear p2
    try clear c4
    try clear c5
    try clear c5b0
    try clear c5b1
    obtain ⟨kq, x6_2, rfl, HA, HJ2, BK107, HB⟩ := hcut
    cases kq with
    | zero => exact absurd HA.out (by simp [impl_partsOf.j0])
    | succ kj2 =>
      have H := HA.out
      clear HA
      simp only [impl_partsOf.j0] at H
      by_cases c7 : x6_2 = true
      · subst c7
        have H1 : (some (((a0 / 2147483648) == 1), Go.bits .and .i64 (a0 / 8388608) 255, Go.bits .and .i64 a0 8388607, 255, true)) = some (r1, r2, r3, r4, r5) := by rw [if_pos rfl] at H; exact H
        clear H
        have H := H1
        clear H1
        simp only [Option.some.injEq, Prod.mk.injEq] at H
        obtain ⟨rfl, rfl, rfl, rfl, rfl⟩ := H
        have hcz8_0 : wc.cell? ⟨gb107, 0, none⟩ = some (.bool false) := (blk_cell BK107.out 0).trans rfl
        have hcz8_1 : wc.cell? ⟨gb107, 1, none⟩ = some (.int .i64 0) := (blk_cell BK107.out 1).trans rfl
        have hcz8_2 : wc.cell? ⟨gb107, 2, none⟩ = some (.int .i64 0) := (blk_cell BK107.out 2).trans rfl
        have hcz8_3 : wc.cell? ⟨gb107, 3, none⟩ = some (.int .i64 0) := (blk_cell BK107.out 3).trans rfl
        have hfz8_0 := blk_frozen BK107.out 0
        have hfz8_1 := blk_frozen BK107.out 1
        have hfz8_2 := blk_frozen BK107.out 2
        have hfz8_3 := blk_frozen BK107.out 3
        go_wp2
        refine bodyPost_ret (results_ct rfl _ _ gb107 53 #[.bool ((a0 / 2147483648) == 1), .int .i64 (Go.bits .and .i64 (a0 / 8388608) 255), .int .i64 (Go.bits .and .i64 a0 8388607), .int .i64 255] (0, 0) _ rfl (by (with_reducible repeat (first | refine blk_drewN ?_ _ | refine blk_drew ?_ | refine blk_alloc ?_ _)); refine blk_put (cs := #[.bool ((a0 / 2147483648) == 1), .int .i64 (Go.bits .and .i64 (a0 / 8388608) 255), .int .i64 (Go.bits .and .i64 a0 8388607), .int .i64 0]) ?_ 3 _ rfl; (with_reducible repeat (first | refine blk_drewN ?_ _ | refine blk_drew ?_ | refine blk_alloc ?_ _)); refine blk_put (cs := #[.bool ((a0 / 2147483648) == 1), .int .i64 (Go.bits .and .i64 (a0 / 8388608) 255), .int .i64 0, .int .i64 0]) ?_ 2 _ rfl; (with_reducible repeat (first | refine blk_drewN ?_ _ | refine blk_drew ?_ | refine blk_alloc ?_ _)); refine blk_put (cs := #[.bool ((a0 / 2147483648) == 1), .int .i64 0, .int .i64 0, .int .i64 0]) ?_ 1 _ rfl; (with_reducible repeat (first | refine blk_drewN ?_ _ | refine blk_drew ?_ | refine blk_alloc ?_ _)); refine blk_put (cs := #[.bool false, .int .i64 0, .int .i64 0, .int .i64 0]) ?_ 0 _ rfl; (with_reducible repeat (first | refine blk_drewN ?_ _ | refine blk_drew ?_ | refine blk_alloc ?_ _)); exact BK107.out) Try.underlying53 rfl (by kernel_rfl)) rfl ?_
        exact ⟨by first | rfl | (simp [errW_none, errW_some] <;> rfl) | (simp [*, errW_none, errW_some] <;> rfl), by repeat (first | (with_reducible first | exact HB.out | apply below_alloc | apply pw_below_drewN | apply below_drew1 | refine below_set ?_ GE107.out) | exact HB.out)⟩
      · replace c7 := Bool.eq_false_iff.mpr c7
        subst c7
        have H1 : (if a1 = 64 then (some (decide (a0 < 0), Go.bits .and .i64 (a0 / 4503599627370496) 2047, Go.bits .and .i64 a0 4503599627370495, 2047, true)) else (some (false, 0, 0, 0, false))) = some (r1, r2, r3, r4, r5) := by rw [if_neg (show ¬ (false = true) by decide)] at H; exact H
        clear H
        have H := H1
        clear H1
        by_cases c9 : a1 = 64
        · rw [if_pos c9] at H
          have c9b0 : (a1 == 64) = true := beq_iff_eq.mpr c9
          have c9b1 : (a1 != 64) = false := bne_eq_false_iff_eq.mpr c9
          clear c9
          simp only [Option.some.injEq, Prod.mk.injEq] at H
          obtain ⟨rfl, rfl, rfl, rfl, rfl⟩ := H
          have hcz10_0 : wc.cell? ⟨gb107, 0, none⟩ = some (.bool false) := (blk_cell BK107.out 0).trans rfl
          have hcz10_1 : wc.cell? ⟨gb107, 1, none⟩ = some (.int .i64 0) := (blk_cell BK107.out 1).trans rfl
          have hcz10_2 : wc.cell? ⟨gb107, 2, none⟩ = some (.int .i64 0) := (blk_cell BK107.out 2).trans rfl
          have hcz10_3 : wc.cell? ⟨gb107, 3, none⟩ = some (.int .i64 0) := (blk_cell BK107.out 3).trans rfl
          have hfz10_0 := blk_frozen BK107.out 0
          have hfz10_1 := blk_frozen BK107.out 1
          have hfz10_2 := blk_frozen BK107.out 2
          have hfz10_3 := blk_frozen BK107.out 3
          go_wp2
          refine bodyPost_ret (results_ct rfl _ _ gb107 53 #[.bool (decide (a0 < 0)), .int .i64 (Go.bits .and .i64 (a0 / 4503599627370496) 2047), .int .i64 (Go.bits .and .i64 a0 4503599627370495), .int .i64 2047] (0, 0) _ rfl (by (with_reducible repeat (first | refine blk_drewN ?_ _ | refine blk_drew ?_ | refine blk_alloc ?_ _)); refine blk_put (cs := #[.bool (decide (a0 < 0)), .int .i64 (Go.bits .and .i64 (a0 / 4503599627370496) 2047), .int .i64 (Go.bits .and .i64 a0 4503599627370495), .int .i64 0]) ?_ 3 _ rfl; (with_reducible repeat (first | refine blk_drewN ?_ _ | refine blk_drew ?_ | refine blk_alloc ?_ _)); refine blk_put (cs := #[.bool (decide (a0 < 0)), .int .i64 (Go.bits .and .i64 (a0 / 4503599627370496) 2047), .int .i64 0, .int .i64 0]) ?_ 2 _ rfl; (with_reducible repeat (first | refine blk_drewN ?_ _ | refine blk_drew ?_ | refine blk_alloc ?_ _)); refine blk_put (cs := #[.bool (decide (a0 < 0)), .int .i64 0, .int .i64 0, .int .i64 0]) ?_ 1 _ rfl; (with_reducible repeat (first | refine blk_drewN ?_ _ | refine blk_drew ?_ | refine blk_alloc ?_ _)); refine blk_put (cs := #[.bool false, .int .i64 0, .int .i64 0, .int .i64 0]) ?_ 0 _ rfl; (with_reducible repeat (first | refine blk_drewN ?_ _ | refine blk_drew ?_ | refine blk_alloc ?_ _)); exact BK107.out) Try.underlying53 rfl (by kernel_rfl)) rfl ?_
          exact ⟨by first | rfl | (simp [errW_none, errW_some] <;> rfl) | (simp [*, errW_none, errW_some] <;> rfl), by repeat (first | (with_reducible first | exact HB.out | apply below_alloc | apply pw_below_drewN | apply below_drew1 | refine below_set ?_ GE107.out) | exact HB.out)⟩
        · rw [if_neg c9] at H
          have c9b0 : (a1 == 64) = false := beq_eq_false_iff_ne.mpr c9
          have c9b1 : (a1 != 64) = true := bne_iff_ne.mpr c9
          simp only [Option.some.injEq, Prod.mk.injEq] at H
          obtain ⟨rfl, rfl, rfl, rfl, rfl⟩ := H
          have hcz11_0 : wc.cell? ⟨gb107, 0, none⟩ = some (.bool false) := (blk_cell BK107.out 0).trans rfl
          have hcz11_1 : wc.cell? ⟨gb107, 1, none⟩ = some (.int .i64 0) := (blk_cell BK107.out 1).trans rfl
          have hcz11_2 : wc.cell? ⟨gb107, 2, none⟩ = some (.int .i64 0) := (blk_cell BK107.out 2).trans rfl
          have hcz11_3 : wc.cell? ⟨gb107, 3, none⟩ = some (.int .i64 0) := (blk_cell BK107.out 3).trans rfl
          have hfz11_0 := blk_frozen BK107.out 0
          have hfz11_1 := blk_frozen BK107.out 1
          have hfz11_2 := blk_frozen BK107.out 2
          have hfz11_3 := blk_frozen BK107.out 3
          go_wp2
          refine bodyPost_ret (results_ct rfl _ _ gb107 53 #[.bool false, .int .i64 0, .int .i64 0, .int .i64 0] (0, 0) _ rfl (by (with_reducible repeat (first | refine blk_drewN ?_ _ | refine blk_drew ?_ | refine blk_alloc ?_ _)); refine blk_put (cs := #[.bool false, .int .i64 0, .int .i64 0, .int .i64 0]) ?_ 3 _ rfl; (with_reducible repeat (first | refine blk_drewN ?_ _ | refine blk_drew ?_ | refine blk_alloc ?_ _)); refine blk_put (cs := #[.bool false, .int .i64 0, .int .i64 0, .int .i64 0]) ?_ 2 _ rfl; (with_reducible repeat (first | refine blk_drewN ?_ _ | refine blk_drew ?_ | refine blk_alloc ?_ _)); refine blk_put (cs := #[.bool false, .int .i64 0, .int .i64 0, .int .i64 0]) ?_ 1 _ rfl; (with_reducible repeat (first | refine blk_drewN ?_ _ | refine blk_drew ?_ | refine blk_alloc ?_ _)); refine blk_put (cs := #[.bool false, .int .i64 0, .int .i64 0, .int .i64 0]) ?_ 0 _ rfl; (with_reducible repeat (first | refine blk_drewN ?_ _ | refine blk_drew ?_ | refine blk_alloc ?_ _)); exact BK107.out) Try.underlying53 rfl (by kernel_rfl)) rfl ?_
          exact ⟨by first | rfl | (simp [errW_none, errW_some] <;> rfl) | (simp [*, errW_none, errW_some] <;> rfl), by repeat (first | (with_reducible first | exact HB.out | apply below_alloc | apply pw_below_drewN | apply below_drew1 | refine below_set ?_ GE107.out) | exact HB.out)⟩

/-! ### impl_size: function 50 -/
def impl_size.f (a0 : Int) (a1 : Int) : Option (Int × Bool) := if a1 = 32 then (some (Go.bits .and .i64 a0 2147483647, ((a0 / 2147483648) == 1))) else (some (Go.bits .and .i64 a0 9223372036854775807, decide (a0 < 0)))
set_option maxHeartbeats 8000000 in
set_option maxRecDepth 100000 in
theorem impl_size.calls (a0 : Int) (a1 : Int) (r1 : Int) (r2 : Bool) (w : World) (h : impl_size.f a0 a1 = some (r1, r2)) :
    Calls Try.prog 50 #[.int .i64 a0, .int .i64 a1] w fun e w' => e = .returned (.tuple #[.int .i64 r1, .bool r2]) ∧ Drawn0 w w' := by
  have H : (if a1 = 32 then (some (Go.bits .and .i64 a0 2147483647, ((a0 / 2147483648) == 1))) else (some (Go.bits .and .i64 a0 9223372036854775807, decide (a0 < 0)))) = some (r1, r2) := h
  clear h
  by_cases c3 : a1 = 32
  · rw [if_pos c3] at H
    have c3b0 : (a1 == 32) = true := beq_iff_eq.mpr c3
    have c3b1 : (a1 != 32) = false := bne_eq_false_iff_eq.mpr c3
    clear c3
    simp only [Option.some.injEq, Prod.mk.injEq] at H
    obtain ⟨rfl, rfl⟩ := H
    go_enter Try.func50, Try.ntmps50
    go_wp2
    go_ret2
    exact ⟨by first | rfl | (simp; done) | (simp [*]; done), by repeat (first | exact Drawn0.refl _ | apply Drawn0.step)⟩
  · rw [if_neg c3] at H
    have c3b0 : (a1 == 32) = false := beq_eq_false_iff_ne.mpr c3
    have c3b1 : (a1 != 32) = true := bne_iff_ne.mpr c3
    simp only [Option.some.injEq, Prod.mk.injEq] at H
    obtain ⟨rfl, rfl⟩ := H
    go_enter Try.func50, Try.ntmps50
    go_wp2
    go_ret2
    exact ⟨by first | rfl | (simp; done) | (simp [*]; done), by repeat (first | exact Drawn0.refl _ | apply Drawn0.step)⟩

-- NOT PRINTED: function 51 (math_Float64bits)

-- NOT PRINTED: function 52 (math_Float32frombits)

/-! ### impl_Widen: function 16, by hand -/
open Go.Proofs.Ytmmdkjihigadcaa.FloatW Go.Proofs.Ytmmdkjihigadcaa.Lib
def impl_Widen_out (s : Bool) : Int := if s = true then -9223372036854775808 else 0
def impl_Widen.f (k : Nat) (x : Int) : Option (Int × Bool) := (impl_partsOf.f k x 32).bind fun p => if p.2.2.2.2 = true then (if p.2.1 = 255 then some (Go.bits .or .i64 (Go.bits .or .i64 (impl_Widen_out p.1) 9218868437227405312) (wrap64 (p.2.2.1 * 536870912)), true) else (impl_size.f x 32).bind fun n => some (Go.bits .or .i64 (impl_Widen_out p.1) (wrap64 ((wm (n.1 % 4294967296).toNat : Nat) : Int)), true)) else some (0, false)
theorem impl_Widen.mono : ∀ x k, LeO (impl_Widen.f k x) (impl_Widen.f (k + 1) x) := by
  intro x k
  unfold impl_Widen.f
  repeat' first
      | (with_reducible exact impl_partsOf.mono _ _ _)
      | (with_reducible exact LeO.refl _)
      | (with_reducible refine LeO.ite ?_ ?_)
      | (with_reducible refine LeO.bind ?_ (fun _ => ?_))
theorem impl_Widen_bitor (s : Bool) (v : Int) (h0 : 0 ≤ v) (h1 : v < 9223372036854775808) : Go.bits .or .i64 (impl_Widen_out s) v = (if s = true then v - 9223372036854775808 else v) := by
  unfold impl_Widen_out
  cases s with
  | false =>
    simp only [Bool.false_eq_true, if_false]
    rw [or_i64 0 0 v (by omega) (by decide) h0 (by omega) (by omega) (by omega)]; omega
  | true =>
    simp only [if_true]
    have hx : ((BitVec.ofInt 64 v).toNat : Int) = v := by rw [toNat_i64]; omega
    have hm : (BitVec.ofInt 64 (-9223372036854775808)).toNat = 2 ^ 63 := by decide
    show IntKind.wrap .i64 (((BitVec.ofInt 64 (-9223372036854775808) ||| BitVec.ofInt 64 v).toNat : Nat) : Int) = _
    rw [BitVec.toNat_or, hm]
    have hv : (BitVec.ofInt 64 v).toNat < 2 ^ 63 := by omega
    have := Nat.two_pow_add_eq_or_of_lt hv 1
    rw [Nat.mul_one] at this
    rw [← this, wi64]
    unfold wrap64
    omega
/-- The 64 bits of a float of 32 bits. -/
def impl_Widen_w (y : Int) : Int := if 2147483648 ≤ y then ((wm (y - 2147483648).toNat : Nat) : Int) - 9223372036854775808 else ((wm y.toNat : Nat) : Int)
theorem impl_Widen_wide (k : Nat) (y : Int) (h0 : 0 ≤ y) (h1 : y ≤ 4294967295) : impl_Widen.f (k + 1) y = some (impl_Widen_w y, true) := by
  have hp : impl_partsOf.f (k + 1) y 32 = some ((y / 2147483648 == 1), y / 8388608 % 256, y % 8388608, 255, true) := by
    unfold impl_partsOf.f impl_within.f
    rw [if_pos rfl, if_pos h0]
    simp only [Option.bind_some, impl_partsOf.j0]
    rw [if_pos (decide_eq_true h1), show Go.bits .and .i64 (y / 8388608) 255 = y / 8388608 % 256 from and_i64 8 (by decide) _, show Go.bits .and .i64 y 8388607 = y % 8388608 from and_i64 23 (by decide) _]
  have hs : impl_size.f y 32 = some (y % 2147483648, y / 2147483648 == 1) := by
    unfold impl_size.f
    rw [if_pos rfl, show Go.bits .and .i64 y 2147483647 = y % 2147483648 from and_i64 31 (by decide) _]
  have hsgn : (y / 2147483648 == 1) = true ↔ 2147483648 ≤ y := by rw [beq_iff_eq]; omega
  have hwm : wm (y % 2147483648).toNat < 9223372036854775808 := wm_lt _ (by omega)
  have hmag : (if 2147483648 ≤ y then (y - 2147483648).toNat else y.toNat) = (y % 2147483648).toNat := by split <;> omega
  have hw : impl_Widen_w y = if (y / 2147483648 == 1) = true then ((wm (y % 2147483648).toNat : Nat) : Int) - 9223372036854775808 else ((wm (y % 2147483648).toNat : Nat) : Int) := by
    unfold impl_Widen_w
    by_cases h : 2147483648 ≤ y
    · rw [if_pos h, if_pos (hsgn.2 h), show (y - 2147483648).toNat = (y % 2147483648).toNat by omega]
    · rw [if_neg h, if_neg (fun e => h (hsgn.1 e)), show y.toNat = (y % 2147483648).toNat by omega]
  unfold impl_Widen.f
  rw [hp]
  simp only [Option.bind_some, if_true]
  by_cases h5 : y / 8388608 % 256 = 255
  · rw [if_pos h5]
    have e1 : Go.bits .or .i64 (Go.bits .or .i64 (impl_Widen_out (y / 2147483648 == 1)) 9218868437227405312) (wrap64 (y % 8388608 * 536870912)) = impl_Widen_w y := by
      have hz : wm (y % 2147483648).toNat = 9218868437227405312 + (y % 8388608 * 536870912).toNat := by
        unfold wm
        rw [if_neg (by omega), if_neg (by omega), if_neg (by omega)]
        omega
      rw [w64 (by omega) (by omega), impl_Widen_bitor _ _ (by omega) (by omega), hw, hz]
      cases (y / 2147483648 == 1) with
      | true =>
        simp only [if_true]
        have : (9218868437227405312 : Int) - 9223372036854775808 = -4503599627370496 := by decide
        rw [this]
        have ha : Go.bits .or .i64 (-4503599627370496) (y % 8388608 * 536870912) = -4503599627370496 + y % 8388608 * 536870912 := by
          have hx : ((BitVec.ofInt 64 (y % 8388608 * 536870912)).toNat : Int) = y % 8388608 * 536870912 := by rw [toNat_i64]; omega
          have hm : (BitVec.ofInt 64 (-4503599627370496)).toNat = 2 ^ 52 * 4095 := by decide
          show IntKind.wrap .i64 (((BitVec.ofInt 64 (-4503599627370496) ||| BitVec.ofInt 64 (y % 8388608 * 536870912)).toNat : Nat) : Int) = _
          rw [BitVec.toNat_or, hm]
          have hv : (BitVec.ofInt 64 (y % 8388608 * 536870912)).toNat < 2 ^ 52 := by omega
          have := Nat.two_pow_add_eq_or_of_lt hv 4095
          rw [← this, wi64]
          unfold wrap64
          omega
        rw [ha]; omega
      | false =>
        simp only [Bool.false_eq_true, if_false]
        rw [bits_or_comm, or_i64 52 (y % 8388608 * 536870912) 9218868437227405312 (by omega) (by omega) (by omega) (by omega) (by decide) (by omega)]
        omega
    rw [e1]
  · rw [if_neg h5, hs]
    simp only [Option.bind_some]
    have e1 : (y % 2147483648 % 4294967296).toNat = (y % 2147483648).toNat := by omega
    rw [e1, w64 (by omega) (by omega), impl_Widen_bitor _ _ (by omega) (by omega), hw]
theorem impl_Widen_not (k : Nat) (y : Int) (h : ¬ (0 ≤ y ∧ y ≤ 4294967295)) : impl_Widen.f (k + 1) y = some (0, false) := by
  have hp : impl_partsOf.f (k + 1) y 32 = some (false, 0, 0, 0, false) := by
    unfold impl_partsOf.f impl_within.f
    rw [if_pos rfl]
    by_cases h0 : y ≥ 0
    · rw [if_pos h0]
      simp only [Option.bind_some, impl_partsOf.j0]
      rw [if_neg (by simpa using fun e => h ⟨h0, e⟩), if_neg (by decide)]
    · rw [if_neg h0]
      simp only [Option.bind_some, impl_partsOf.j0]
      rw [if_neg (by decide), if_neg (by decide)]
  unfold impl_Widen.f
  rw [hp]
  simp only [Option.bind_some, Bool.false_eq_true, if_false]
theorem impl_Widen_fin {k : Nat} {x p1 p2 p3 n : Int} {s t : Bool} (h : impl_partsOf.f k x 32 = some (s, p1, p2, p3, true)) (hn : impl_size.f x 32 = some (n, t)) (h5 : ¬ p1 = 255) : (n % 4294967296).toNat < 2139095040 := by
  have a31 : n = x % 2147483648 := by
    unfold impl_size.f at hn
    rw [if_pos rfl] at hn
    have : Go.bits .and .i64 x 2147483647 = n := by simpa using congrArg (Option.map Prod.fst) hn
    rw [← this]
    exact and_i64 31 (by decide) x
  have a255 : p1 = x / 8388608 % 256 := by
    cases k with
    | zero => unfold impl_partsOf.f impl_within.f at h; split at h <;> simp [impl_partsOf.j0] at h
    | succ k =>
      unfold impl_partsOf.f impl_within.f at h
      rw [if_pos rfl] at h
      have e : Go.bits .and .i64 (x / 8388608) 255 = x / 8388608 % 256 := and_i64 8 (by decide) _
      rw [← e]
      split at h
      · simp only [Option.bind_some, impl_partsOf.j0] at h
        split at h
        · simp only [Option.some.injEq, Prod.mk.injEq] at h; exact h.2.1.symm
        · simp at h
      · simp [impl_partsOf.j0] at h
  omega
set_option maxHeartbeats 8000000 in
set_option maxRecDepth 100000 in
theorem impl_Widen.calls (k : Nat) (a0 : Int) (r1 : Int) (r2 : Bool) (w : World) (h : impl_Widen.f k a0 = some (r1, r2)) :
    Calls Try.prog 16 #[.int .i64 a0] w fun e w' => e = .returned (.tuple #[.int .i64 r1, .bool r2]) ∧ Below w.heap.size w w' := by
  unfold impl_Widen.f at h
  obtain ⟨⟨s, p1, p2, p3, ok⟩, hp, h⟩ := Option.bind_eq_some_iff.mp h
  have HP := Aside0.mk hp
  cases ok with
  | false =>
    rw [if_neg Bool.false_ne_true] at h
    obtain ⟨rfl, rfl⟩ : 0 = r1 ∧ false = r2 := by simpa using h
    clear h hp
    go_enter Try.func16, Try.ntmps16
    go_wp2_with (go_at_call 49; (with_reducible refine (impl_partsOf.calls _ _ _ _ _ _ _ _ _ HP.out).mono ?_); rintro e w1 ⟨rfl, hb1⟩; have HB1 := Aside0.mk hb1; clear hb1)
    go_ret2
    exact ⟨rfl, below_alloc HB1.out _⟩
  | true =>
    rw [if_pos rfl] at h
    have hpr : (k : Nat) → True := fun _ => trivial
    by_cases h5 : p1 = 255
    · rw [if_pos h5] at h
      have hr := Option.some.inj h
      simp only [Prod.mk.injEq] at hr
      obtain ⟨hr1, rfl⟩ := hr
      have HR := Aside0.mk hr1
      have h51 : (p1 == 255) = true := beq_iff_eq.mpr h5
      clear h hp h5 hr1
      cases s with
      | true =>
        go_enter Try.func16, Try.ntmps16
        go_wp2_with (go_at_call 49; (with_reducible refine (impl_partsOf.calls _ _ _ _ _ _ _ _ _ HP.out).mono ?_); rintro e w1 ⟨rfl, hb1⟩; have HB1 := Aside0.mk hb1; clear hb1)
        go_ret2
        refine ⟨?_, below_alloc HB1.out _⟩
        rw [← HR.out]; rfl
      | false =>
        go_enter Try.func16, Try.ntmps16
        go_wp2_with (go_at_call 49; (with_reducible refine (impl_partsOf.calls _ _ _ _ _ _ _ _ _ HP.out).mono ?_); rintro e w1 ⟨rfl, hb1⟩; have HB1 := Aside0.mk hb1; clear hb1)
        go_ret2
        refine ⟨?_, below_alloc HB1.out _⟩
        rw [← HR.out]; rfl
    · rw [if_neg h5] at h
      obtain ⟨⟨n, t⟩, hn, h⟩ := Option.bind_eq_some_iff.mp h
      have hr := Option.some.inj h
      simp only [Prod.mk.injEq] at hr
      obtain ⟨hr1, rfl⟩ := hr
      have HR := Aside0.mk hr1
      have HN := Aside0.mk hn
      have hfin := impl_Widen_fin hp hn h5
      have hcv : ∀ W : World, (convert 59 58 (Value.float .f32 (n % 4294967296).toNat)).run Try.prog W = .ok (Value.float .f64 (wm (n % 4294967296).toNat)) W := fun W => run_convert_float_float W 59 58 .f32 .f64 _ _ (by kernel_rfl) (by kernel_rfl) (wide_bits _ hfin)
      have hxa : ∀ (m : Int) (W : World), (callFunc 52 #[.int .u32 m]).run Try.prog W = .ok (.value (.float .f32 m.toNat)) W := fun m W => by
        rw [run_callFunc_extern (e := Extern.MathFloatBits.float32frombits) Try.func52 (by kernel_rfl) rfl (by kernel_rfl) (by kernel_rfl)]; rfl
      have hxb : ∀ (m : Nat) (W : World), (callFunc 51 #[.float .f64 m]).run Try.prog W = .ok (.value (.int .u64 m)) W := fun m W => by
        rw [run_callFunc_extern (e := Extern.MathFloatBits.float64bits) Try.func51 (by kernel_rfl) rfl (by kernel_rfl) (by kernel_rfl)]; rfl
      have h51 : (p1 == 255) = false := beq_eq_false_iff_ne.mpr h5
      clear h hp h5 hr1 hn hfin
      cases s with
      | true =>
        go_enter Try.func16, Try.ntmps16
        go_wp2_with (first | (go_at_call 49; (with_reducible refine (impl_partsOf.calls _ _ _ _ _ _ _ _ _ HP.out).mono ?_); rintro e w1 ⟨rfl, hb1⟩; have HB1 := Aside0.mk hb1; clear hb1) | (go_at_call 50; (with_reducible refine (impl_size.calls _ _ _ _ _ HN.out).mono ?_); rintro e w' ⟨rfl, ⟨n1, rfl⟩⟩))
        go_ret2
        refine ⟨?_, by repeat (first | exact HB1.out | apply pw_below_drewN | apply below_alloc)⟩
        rw [← HR.out]; rfl
      | false =>
        go_enter Try.func16, Try.ntmps16
        go_wp2_with (first | (go_at_call 49; (with_reducible refine (impl_partsOf.calls _ _ _ _ _ _ _ _ _ HP.out).mono ?_); rintro e w1 ⟨rfl, hb1⟩; have HB1 := Aside0.mk hb1; clear hb1) | (go_at_call 50; (with_reducible refine (impl_size.calls _ _ _ _ _ HN.out).mono ?_); rintro e w' ⟨rfl, ⟨n1, rfl⟩⟩))
        go_ret2
        refine ⟨?_, by repeat (first | exact HB1.out | apply pw_below_drewN | apply below_alloc)⟩
        rw [← HR.out]; rfl

/-! ### laws_FnExactWiden: function 3 -/
def laws_FnExactWiden.f (k : Nat) (a0 : Int) : Option (Bool) := (spec_Widen.f k a0).bind fun bt109 => ((impl_Widen.f k a0).bind fun bt111 => (if bt111.1 = bt109.1 then (if (bt111.2 != bt109.2) = true then (some false) else (some true)) else (some false)))
theorem laws_FnExactWiden.mono : ∀ a0 k, LeO (laws_FnExactWiden.f k a0) (laws_FnExactWiden.f (k + 1) a0) := by
  intro a0 k
  unfold laws_FnExactWiden.f
  repeat' first
      | (with_reducible exact impl_Widen.mono _ _)
      | (with_reducible exact spec_Widen.mono _ _)
      | (with_reducible exact LeO.refl _)
      | (with_reducible exact LeO.none _)
      | (with_reducible refine LeO.ite ?_ ?_)
      | (with_reducible refine LeO.bind ?_ (fun _ => ?_))
      | exact impl_Widen.mono _ _
      | exact spec_Widen.mono _ _
      | exact LeO.none _
      | refine LeO.ite ?_ ?_
      | refine LeO.bind ?_ (fun _ => ?_)
set_option maxHeartbeats 8000000 in
set_option maxRecDepth 100000 in
theorem laws_FnExactWiden.calls (k : Nat) (a0 : Int) (r : Bool) (w : World) (h : laws_FnExactWiden.f k a0 = some r) :
    Calls Try.prog 3 #[.int .i64 a0] w fun e w' => e = .returned (.bool r) ∧ Below w.heap.size w w' := by
  have HB := Aside0.mk (Below.refl w.heap.size w)
  have H : ((spec_Widen.f k a0).bind fun bt109 => ((impl_Widen.f k a0).bind fun bt111 => (if bt111.1 = bt109.1 then (if (bt111.2 != bt109.2) = true then (some false) else (some true)) else (some false)))) = some r := h
  clear h
  replace H := Option.bind_eq_some_iff.mp H
  obtain ⟨⟨t109, t110⟩, A20, H⟩ := H
  replace H : ((impl_Widen.f k a0).bind fun bt111 => (if bt111.1 = t109 then (if (bt111.2 != t110) = true then (some false) else (some true)) else (some false))) = some r := H
  have A2 := Aside0.mk A20
  clear A20
  replace H := Option.bind_eq_some_iff.mp H
  obtain ⟨⟨t111, t112⟩, A30, H⟩ := H
  replace H : (if t111 = t109 then (if (t112 != t110) = true then (some false) else (some true)) else (some false)) = some r := H
  have A3 := Aside0.mk A30
  clear A30
  by_cases c4 : t111 = t109
  · rw [if_pos c4] at H
    have c4b0 : (t111 == t109) = true := beq_iff_eq.mpr c4
    have c4b1 : (t111 != t109) = false := bne_eq_false_iff_eq.mpr c4
    clear c4
    by_cases c5 : (t112 != t110) = true
    · rw [if_pos c5] at H
      have c5b0 : (t112 != t110) = true := c5
      (try (have c5b1 : decide (t112 = t110) = false := by simpa using c5))
      (try (have c5b2 : (t112 == t110) = false := by simpa using c5))
      (try (have c5b3 : ¬ (t112 = t110) := by simpa using c5))
      clear c5
      obtain rfl := Option.some.inj H
      go_enter Try.func3, Try.ntmps3
      go_wp2_with (first | ((with_reducible refine gate_callee (f := 15) rfl ?_); refine goesL_ (some 9) rfl rfl Try.func15 (by kernel_rfl) rfl #[.int .i64 a0] rfl (by (try simp only [List.map_toArray, List.map_cons, List.map_nil]); first | done | rfl | (simp only [List.length_drop, List.length_take]; rfl)) ?_; (with_reducible refine (spec_Widen.calls k a0 t109 t110 _ A2.out).mono ?_); rintro e w' ⟨rfl, ⟨nd, rfl⟩⟩; refine ⟨_, rfl, ?_⟩) | ((with_reducible refine gate_callee (f := 16) rfl ?_); refine goesL_ (some 14) rfl rfl Try.func16 (by kernel_rfl) rfl #[.int .i64 a0] rfl (by (try simp only [List.map_toArray, List.map_cons, List.map_nil]); first | done | rfl | (simp only [List.length_drop, List.length_take]; rfl)) ?_; (with_reducible refine (impl_Widen.calls k a0 t111 t112 _ A3.out).mono ?_); rintro e w6 ⟨rfl, hb⟩; refine ⟨_, rfl, ?_⟩; have n0_ := Aside0.mk (below_step (by repeat (first | (with_reducible first | exact HB.out | apply below_alloc | apply pw_below_drewN | apply below_drew1) | exact HB.out)) hb); clear HB; have HB := n0_; clear n0_; (try clear hb); (try clear hb2); (try clear hk); (try clear hi)))
      go_ret
      exact ⟨by first | rfl | (simp [errW_none, errW_some] <;> rfl) | (simp [*, errW_none, errW_some] <;> rfl), by repeat (first | (with_reducible first | exact HB.out | apply below_alloc | apply pw_below_drewN | apply below_drew1) | exact HB.out)⟩
    · rw [if_neg c5] at H
      have c5b0 : (t112 != t110) = false := by simpa using c5
      (try (have c5b1 : decide (t112 = t110) = true := by simpa using c5))
      (try (have c5b2 : (t112 == t110) = true := by simpa using c5))
      clear c5
      obtain rfl := Option.some.inj H
      go_enter Try.func3, Try.ntmps3
      go_wp2_with (first | ((with_reducible refine gate_callee (f := 15) rfl ?_); refine goesL_ (some 9) rfl rfl Try.func15 (by kernel_rfl) rfl #[.int .i64 a0] rfl (by (try simp only [List.map_toArray, List.map_cons, List.map_nil]); first | done | rfl | (simp only [List.length_drop, List.length_take]; rfl)) ?_; (with_reducible refine (spec_Widen.calls k a0 t109 t110 _ A2.out).mono ?_); rintro e w' ⟨rfl, ⟨nd, rfl⟩⟩; refine ⟨_, rfl, ?_⟩) | ((with_reducible refine gate_callee (f := 16) rfl ?_); refine goesL_ (some 14) rfl rfl Try.func16 (by kernel_rfl) rfl #[.int .i64 a0] rfl (by (try simp only [List.map_toArray, List.map_cons, List.map_nil]); first | done | rfl | (simp only [List.length_drop, List.length_take]; rfl)) ?_; (with_reducible refine (impl_Widen.calls k a0 t111 t112 _ A3.out).mono ?_); rintro e w7 ⟨rfl, hb⟩; refine ⟨_, rfl, ?_⟩; have n0_ := Aside0.mk (below_step (by repeat (first | (with_reducible first | exact HB.out | apply below_alloc | apply pw_below_drewN | apply below_drew1) | exact HB.out)) hb); clear HB; have HB := n0_; clear n0_; (try clear hb); (try clear hb2); (try clear hk); (try clear hi)))
      go_ret
      exact ⟨by first | rfl | (simp [errW_none, errW_some] <;> rfl) | (simp [*, errW_none, errW_some] <;> rfl), by repeat (first | (with_reducible first | exact HB.out | apply below_alloc | apply pw_below_drewN | apply below_drew1) | exact HB.out)⟩
  · rw [if_neg c4] at H
    have c4b0 : (t111 == t109) = false := beq_eq_false_iff_ne.mpr c4
    have c4b1 : (t111 != t109) = true := bne_iff_ne.mpr c4
    obtain rfl := Option.some.inj H
    go_enter Try.func3, Try.ntmps3
    go_wp2_with (first | ((with_reducible refine gate_callee (f := 15) rfl ?_); refine goesL_ (some 9) rfl rfl Try.func15 (by kernel_rfl) rfl #[.int .i64 a0] rfl (by (try simp only [List.map_toArray, List.map_cons, List.map_nil]); first | done | rfl | (simp only [List.length_drop, List.length_take]; rfl)) ?_; (with_reducible refine (spec_Widen.calls k a0 t109 t110 _ A2.out).mono ?_); rintro e w' ⟨rfl, ⟨nd, rfl⟩⟩; refine ⟨_, rfl, ?_⟩) | ((with_reducible refine gate_callee (f := 16) rfl ?_); refine goesL_ (some 14) rfl rfl Try.func16 (by kernel_rfl) rfl #[.int .i64 a0] rfl (by (try simp only [List.map_toArray, List.map_cons, List.map_nil]); first | done | rfl | (simp only [List.length_drop, List.length_take]; rfl)) ?_; (with_reducible refine (impl_Widen.calls k a0 t111 t112 _ A3.out).mono ?_); rintro e w8 ⟨rfl, hb⟩; refine ⟨_, rfl, ?_⟩; have n0_ := Aside0.mk (below_step (by repeat (first | (with_reducible first | exact HB.out | apply below_alloc | apply pw_below_drewN | apply below_drew1) | exact HB.out)) hb); clear HB; have HB := n0_; clear n0_; (try clear hb); (try clear hb2); (try clear hk); (try clear hi)))
    go_ret
    exact ⟨by first | rfl | (simp [errW_none, errW_some] <;> rfl) | (simp [*, errW_none, errW_some] <;> rfl), by repeat (first | (with_reducible first | exact HB.out | apply below_alloc | apply pw_below_drewN | apply below_drew1) | exact HB.out)⟩

/-- THE ONE PURE STATEMENT of laws_FnExactWiden: yours. -/
def laws_FnExactWiden.Pure : Prop := ∀ (a0 : Int), (Lit.int .i64 a0).wf = true → ∃ k, laws_FnExactWiden.f k a0 = some true
theorem laws_FnExactWiden.walk (P : laws_FnExactWiden.Pure) (a0 : Int) (w : World) (w0 : (Lit.int .i64 a0).wf = true) :
    Calls Try.prog 3 #[.int .i64 a0] w fun e w' => e = .returned (.bool true) ∧ Below w.heap.size w w' := by
  obtain ⟨k, h⟩ := P a0 w0
  refine (laws_FnExactWiden.calls k a0 true w h).mono ?_
  rintro e w' ⟨rfl, hd⟩
  exact ⟨rfl, hd⟩

end Go.Proofs.Ytmmdkjihigadcaa.PFnExactWiden
