/- The functions that FnExactNarrow reaches as Lean functions, each with its contract: laid by a program of this session (wip/print2.py) over the kit's print. -/
import Derived.Test.YtmmdkjihigadcaaPFnExactNarrowx0
import Derived.Test.YtmmdkjihigadcaaPFnExactNarrowx1
namespace Go.Proofs.Ytmmdkjihigadcaa.PFnExactNarrow
open Go.RowKit Go.Proofs.YtmmdkjihigadcaaW.PrintWords Go.Proofs.YtmmdkjihigadcaaW.PrintLast Go.Proofs.YtmmdkjihigadcaaW.PrintMore
attribute [local go_sem] max2_int min2_int max_two min_two max_three min_three max_four min_four   -- for this text's walks alone
set_option linter.unusedVariables false
set_option linter.unusedSimpArgs false

/-! ### impl_partsOf: function 49 -/
def impl_partsOf.j0 : Nat → Int → Int → Bool → Option (Bool × Int × Int × Int × Bool)
  | 0, _, _, _ => none
  | k + 1, x0, x1, x6 => if x6 = true then (some (((x0 / 2147483648) == 1), Go.bits .and .i64 (x0 / 8388608) 255, Go.bits .and .i64 x0 8388607, 255, true)) else (if x1 = 64 then (some (decide (x0 < 0), Go.bits .and .i64 (x0 / 4503599627370496) 2047, Go.bits .and .i64 x0 4503599627370495, 2047, true)) else (some (false, 0, 0, 0, false)))
def impl_partsOf.f (k : Nat) (a0 : Int) (a1 : Int) : Option (Bool × Int × Int × Int × Bool) := if a1 = 32 then ((impl_within.f a0 0 4294967295).bind fun t121 => (impl_partsOf.j0 k a0 a1 t121)) else (impl_partsOf.j0 k a0 a1 false)
theorem impl_partsOf.mono_l : ∀ k, (∀ y0 y1 y2, LeO (impl_partsOf.j0 k y0 y1 y2) (impl_partsOf.j0 (k + 1) y0 y1 y2))
  | 0 => fun _ _ _ r h => by simp [impl_partsOf.j0] at h
  | k + 1 => by
    have ih0 := impl_partsOf.mono_l k
    · intro y0 y1 y2
      unfold impl_partsOf.j0
      repeat' first
      | (with_reducible exact ih0 _ _ _)
      | (with_reducible exact LeO.refl _)
      | (with_reducible exact LeO.none _)
      | (with_reducible refine LeO.ite ?_ ?_)
      | (with_reducible refine LeO.bind ?_ (fun _ => ?_))
      | exact ih0 _ _ _
      | exact LeO.none _
      | refine LeO.ite ?_ ?_
      | refine LeO.bind ?_ (fun _ => ?_)
theorem impl_partsOf.mono : ∀ a0 a1 k, LeO (impl_partsOf.f k a0 a1) (impl_partsOf.f (k + 1) a0 a1) := by
  intro a0 a1 k
  have ih0 := impl_partsOf.mono_l k
  unfold impl_partsOf.f
  repeat' first
      | (with_reducible exact ih0 _ _ _)
      | (with_reducible exact LeO.refl _)
      | (with_reducible exact LeO.none _)
      | (with_reducible refine LeO.ite ?_ ?_)
      | (with_reducible refine LeO.bind ?_ (fun _ => ?_))
      | exact ih0 _ _ _
      | exact LeO.none _
      | refine LeO.ite ?_ ?_
      | refine LeO.bind ?_ (fun _ => ?_)
set_option maxHeartbeats 8000000 in
set_option maxRecDepth 100000 in
theorem impl_partsOf.calls (k : Nat) (a0 : Int) (a1 : Int) (r1 : Bool) (r2 : Int) (r3 : Int) (r4 : Int) (r5 : Bool) (w : World) (h : impl_partsOf.f k a0 a1 = some (r1, r2, r3, r4, r5)) :
    Calls Try.prog 49 #[.int .i64 a0, .int .i64 a1] w fun e w' => e = .returned (.tuple #[.agg #[.bool r1, .int .i64 r2, .int .i64 r3, .int .i64 r4], .bool r5]) ∧ Below w.heap.size w w' := by
  have hu53 := Try.underlying53
  have HB := Aside0.mk (Below.refl w.heap.size w)
  have H : (if a1 = 32 then ((impl_within.f a0 0 4294967295).bind fun t121 => (impl_partsOf.j0 k a0 a1 t121)) else (impl_partsOf.j0 k a0 a1 false)) = some (r1, r2, r3, r4, r5) := h
  clear h
  have HC3 := Aside0.mk H
  clear H
  go_enter Try.func49, Try.ntmps49
  go_upto_region 1 with (first | ((with_reducible refine gate_dst (N := 4) rfl ?_); refine box_event ?hg (N := 4) ?hd (cs := #[.bool false, .int .i64 0, .int .i64 0, .int .i64 0]) (t := 53) ?hr ?_; (case hd => rfl); (case hg => rfl); (case hr => first | (go_simp; done) | (go_simp; rfl)); intro gb120 hg w4 hbox hb; have n0_ := Aside0.mk (below_step (by repeat (first | (with_reducible first | exact HB.out | apply below_alloc | apply pw_below_drewN | apply below_drew1) | exact HB.out)) hb); have n1_ := Aside0.mk (hbox); have n2_ := Aside0.mk ((by rw [hg]; exact (below_size (by repeat (first | (with_reducible first | exact HB.out | apply below_alloc | apply pw_below_drewN | apply below_drew1) | exact HB.out))) : w.heap.size ≤ gb120)); have n3_ := Aside0.mk ((by rw [hg]; exact (below_size (by repeat (first | (with_reducible first | exact HB.out | apply below_alloc | apply pw_below_drewN | apply below_drew1) | exact HB.out))) : w.heap.size ≤ gb120)); clear HB; have HB := n0_; have BK120 := n1_; have GW120 := n2_; have GE120 := n3_; clear n0_ n1_ n2_ n3_; clear hb hbox hg))
  (try simp only [Act.put, List.setIfInBounds_toArray, List.set_cons_zero, List.set_cons_succ])
  go_cut [6] (fun v6 wc => ∃ (kq : Nat) (x6_2 : Bool), v6 = .bool x6_2 ∧ Aside0 (impl_partsOf.j0 kq a0 a1 x6_2 = some (r1, r2, r3, r4, r5)) ∧ Aside0 (kq ≤ k) ∧ Aside0 (wc.heap[gb120]? = some (.cells #[.bool false, .int .i64 0, .int .i64 0, .int .i64 0] 53 (0, 0))) ∧ Aside0 (Below w.heap.size w wc))
  case first =>
    have H := HC3.out
    clear HC3
    by_cases c5 : a1 = 32
    · rw [if_pos c5] at H
      have c5b0 : (a1 == 32) = true := beq_iff_eq.mpr c5
      have c5b1 : (a1 != 32) = false := bne_eq_false_iff_eq.mpr c5
      clear c5
      (first | rw [c5b0] | (simp only [i64_w, i32_w]; rw [c5b0]) | skip)
      replace H := Option.bind_eq_some_iff.mp H
      obtain ⟨t121, A60, H⟩ := H
      replace H : (impl_partsOf.j0 k a0 a1 t121) = some (r1, r2, r3, r4, r5) := H
      have A6 := Aside0.mk A60
      clear A60
      have H' := Aside0.mk H
      clear H
      go_wp2_with (first | (go_at_call 55; (with_reducible refine (impl_within.calls a0 0 4294967295 t121 _ A6.out).mono ?_); rintro e w' ⟨rfl, ⟨nd, rfl⟩⟩))
      go_meet
      case rel => exact ⟨_, (t121), (by first | rfl | (simp; done) | (simp [*]; done)), H', ⟨by first | omega | exact Nat.le_refl _⟩, ⟨by (with_reducible repeat (first | refine blk_drewN ?_ _ | refine blk_drew ?_ | refine blk_alloc ?_ _)); exact BK120.out⟩, ⟨by repeat (first | (with_reducible first | exact HB.out | apply below_alloc | apply pw_below_drewN | apply below_drew1 | refine below_set ?_ GE120.out) | exact HB.out)⟩⟩
    · rw [if_neg c5] at H
      have c5b0 : (a1 == 32) = false := beq_eq_false_iff_ne.mpr c5
      have c5b1 : (a1 != 32) = true := bne_iff_ne.mpr c5
      (first | rw [c5b0] | (simp only [i64_w, i32_w]; rw [c5b0]) | skip)
      have H' := Aside0.mk H
      clear H
      go_wp2
      go_meet
      case rel => exact ⟨_, (false), (by first | rfl | (simp; done) | (simp [*]; done)), H', ⟨by first | omega | exact Nat.le_refl _⟩, ⟨by (with_reducible repeat (first | refine blk_drewN ?_ _ | refine blk_drew ?_ | refine blk_alloc ?_ _)); exact BK120.out⟩, ⟨by repeat (first | (with_reducible first | exact HB.out | apply below_alloc | apply pw_below_drewN | apply below_drew1 | refine below_set ?_ GE120.out) | exact HB.out)⟩⟩
  case rest =>
    clear HC3
    try clear p2
    try clear c4
    try clear c5
    try clear c5b0
    try clear c5b1
    obtain ⟨kq, x6_2, rfl, HA, HJ2, BK120, HB⟩ := hcut
    cases kq with
    | zero => exact absurd HA.out (by simp [impl_partsOf.j0])
    | succ kj2 =>
      have H := HA.out
      clear HA
      simp only [impl_partsOf.j0] at H
      by_cases c7 : x6_2 = true
      · subst c7
        have H1 : (some (((a0 / 2147483648) == 1), Go.bits .and .i64 (a0 / 8388608) 255, Go.bits .and .i64 a0 8388607, 255, true)) = some (r1, r2, r3, r4, r5) := by rw [if_pos rfl] at H; exact H
        clear H
        have H := H1
        clear H1
        simp only [Option.some.injEq, Prod.mk.injEq] at H
        obtain ⟨rfl, rfl, rfl, rfl, rfl⟩ := H
        have hcz8_0 : wc.cell? ⟨gb120, 0, none⟩ = some (.bool false) := (blk_cell BK120.out 0).trans rfl
        have hcz8_1 : wc.cell? ⟨gb120, 1, none⟩ = some (.int .i64 0) := (blk_cell BK120.out 1).trans rfl
        have hcz8_2 : wc.cell? ⟨gb120, 2, none⟩ = some (.int .i64 0) := (blk_cell BK120.out 2).trans rfl
        have hcz8_3 : wc.cell? ⟨gb120, 3, none⟩ = some (.int .i64 0) := (blk_cell BK120.out 3).trans rfl
        have hfz8_0 := blk_frozen BK120.out 0
        have hfz8_1 := blk_frozen BK120.out 1
        have hfz8_2 := blk_frozen BK120.out 2
        have hfz8_3 := blk_frozen BK120.out 3
        go_wp2
        refine bodyPost_ret (results_ct rfl _ _ gb120 53 #[.bool ((a0 / 2147483648) == 1), .int .i64 (Go.bits .and .i64 (a0 / 8388608) 255), .int .i64 (Go.bits .and .i64 a0 8388607), .int .i64 255] (0, 0) _ rfl (by (with_reducible repeat (first | refine blk_drewN ?_ _ | refine blk_drew ?_ | refine blk_alloc ?_ _)); refine blk_put (cs := #[.bool ((a0 / 2147483648) == 1), .int .i64 (Go.bits .and .i64 (a0 / 8388608) 255), .int .i64 (Go.bits .and .i64 a0 8388607), .int .i64 0]) ?_ 3 _ rfl; (with_reducible repeat (first | refine blk_drewN ?_ _ | refine blk_drew ?_ | refine blk_alloc ?_ _)); refine blk_put (cs := #[.bool ((a0 / 2147483648) == 1), .int .i64 (Go.bits .and .i64 (a0 / 8388608) 255), .int .i64 0, .int .i64 0]) ?_ 2 _ rfl; (with_reducible repeat (first | refine blk_drewN ?_ _ | refine blk_drew ?_ | refine blk_alloc ?_ _)); refine blk_put (cs := #[.bool ((a0 / 2147483648) == 1), .int .i64 0, .int .i64 0, .int .i64 0]) ?_ 1 _ rfl; (with_reducible repeat (first | refine blk_drewN ?_ _ | refine blk_drew ?_ | refine blk_alloc ?_ _)); refine blk_put (cs := #[.bool false, .int .i64 0, .int .i64 0, .int .i64 0]) ?_ 0 _ rfl; (with_reducible repeat (first | refine blk_drewN ?_ _ | refine blk_drew ?_ | refine blk_alloc ?_ _)); exact BK120.out) Try.underlying53 rfl (by kernel_rfl)) rfl ?_
        exact ⟨by first | rfl | (simp [errW_none, errW_some] <;> rfl) | (simp [*, errW_none, errW_some] <;> rfl), by repeat (first | (with_reducible first | exact HB.out | apply below_alloc | apply pw_below_drewN | apply below_drew1 | refine below_set ?_ GE120.out) | exact HB.out)⟩
      · replace c7 := Bool.eq_false_iff.mpr c7
        subst c7
        have H1 : (if a1 = 64 then (some (decide (a0 < 0), Go.bits .and .i64 (a0 / 4503599627370496) 2047, Go.bits .and .i64 a0 4503599627370495, 2047, true)) else (some (false, 0, 0, 0, false))) = some (r1, r2, r3, r4, r5) := by rw [if_neg (show ¬ (false = true) by decide)] at H; exact H
        clear H
        have H := H1
        clear H1
        by_cases c9 : a1 = 64
        · rw [if_pos c9] at H
          have c9b0 : (a1 == 64) = true := beq_iff_eq.mpr c9
          have c9b1 : (a1 != 64) = false := bne_eq_false_iff_eq.mpr c9
          clear c9
          simp only [Option.some.injEq, Prod.mk.injEq] at H
          obtain ⟨rfl, rfl, rfl, rfl, rfl⟩ := H
          have hcz10_0 : wc.cell? ⟨gb120, 0, none⟩ = some (.bool false) := (blk_cell BK120.out 0).trans rfl
          have hcz10_1 : wc.cell? ⟨gb120, 1, none⟩ = some (.int .i64 0) := (blk_cell BK120.out 1).trans rfl
          have hcz10_2 : wc.cell? ⟨gb120, 2, none⟩ = some (.int .i64 0) := (blk_cell BK120.out 2).trans rfl
          have hcz10_3 : wc.cell? ⟨gb120, 3, none⟩ = some (.int .i64 0) := (blk_cell BK120.out 3).trans rfl
          have hfz10_0 := blk_frozen BK120.out 0
          have hfz10_1 := blk_frozen BK120.out 1
          have hfz10_2 := blk_frozen BK120.out 2
          have hfz10_3 := blk_frozen BK120.out 3
          go_wp2
          refine bodyPost_ret (results_ct rfl _ _ gb120 53 #[.bool (decide (a0 < 0)), .int .i64 (Go.bits .and .i64 (a0 / 4503599627370496) 2047), .int .i64 (Go.bits .and .i64 a0 4503599627370495), .int .i64 2047] (0, 0) _ rfl (by (with_reducible repeat (first | refine blk_drewN ?_ _ | refine blk_drew ?_ | refine blk_alloc ?_ _)); refine blk_put (cs := #[.bool (decide (a0 < 0)), .int .i64 (Go.bits .and .i64 (a0 / 4503599627370496) 2047), .int .i64 (Go.bits .and .i64 a0 4503599627370495), .int .i64 0]) ?_ 3 _ rfl; (with_reducible repeat (first | refine blk_drewN ?_ _ | refine blk_drew ?_ | refine blk_alloc ?_ _)); refine blk_put (cs := #[.bool (decide (a0 < 0)), .int .i64 (Go.bits .and .i64 (a0 / 4503599627370496) 2047), .int .i64 0, .int .i64 0]) ?_ 2 _ rfl; (with_reducible repeat (first | refine blk_drewN ?_ _ | refine blk_drew ?_ | refine blk_alloc ?_ _)); refine blk_put (cs := #[.bool (decide (a0 < 0)), .int .i64 0, .int .i64 0, .int .i64 0]) ?_ 1 _ rfl; (with_reducible repeat (first | refine blk_drewN ?_ _ | refine blk_drew ?_ | refine blk_alloc ?_ _)); refine blk_put (cs := #[.bool false, .int .i64 0, .int .i64 0, .int .i64 0]) ?_ 0 _ rfl; (with_reducible repeat (first | refine blk_drewN ?_ _ | refine blk_drew ?_ | refine blk_alloc ?_ _)); exact BK120.out) Try.underlying53 rfl (by kernel_rfl)) rfl ?_
          exact ⟨by first | rfl | (simp [errW_none, errW_some] <;> rfl) | (simp [*, errW_none, errW_some] <;> rfl), by repeat (first | (with_reducible first | exact HB.out | apply below_alloc | apply pw_below_drewN | apply below_drew1 | refine below_set ?_ GE120.out) | exact HB.out)⟩
        · rw [if_neg c9] at H
          have c9b0 : (a1 == 64) = false := beq_eq_false_iff_ne.mpr c9
          have c9b1 : (a1 != 64) = true := bne_iff_ne.mpr c9
          simp only [Option.some.injEq, Prod.mk.injEq] at H
          obtain ⟨rfl, rfl, rfl, rfl, rfl⟩ := H
          have hcz11_0 : wc.cell? ⟨gb120, 0, none⟩ = some (.bool false) := (blk_cell BK120.out 0).trans rfl
          have hcz11_1 : wc.cell? ⟨gb120, 1, none⟩ = some (.int .i64 0) := (blk_cell BK120.out 1).trans rfl
          have hcz11_2 : wc.cell? ⟨gb120, 2, none⟩ = some (.int .i64 0) := (blk_cell BK120.out 2).trans rfl
          have hcz11_3 : wc.cell? ⟨gb120, 3, none⟩ = some (.int .i64 0) := (blk_cell BK120.out 3).trans rfl
          have hfz11_0 := blk_frozen BK120.out 0
          have hfz11_1 := blk_frozen BK120.out 1
          have hfz11_2 := blk_frozen BK120.out 2
          have hfz11_3 := blk_frozen BK120.out 3
          go_wp2
          refine bodyPost_ret (results_ct rfl _ _ gb120 53 #[.bool false, .int .i64 0, .int .i64 0, .int .i64 0] (0, 0) _ rfl (by (with_reducible repeat (first | refine blk_drewN ?_ _ | refine blk_drew ?_ | refine blk_alloc ?_ _)); refine blk_put (cs := #[.bool false, .int .i64 0, .int .i64 0, .int .i64 0]) ?_ 3 _ rfl; (with_reducible repeat (first | refine blk_drewN ?_ _ | refine blk_drew ?_ | refine blk_alloc ?_ _)); refine blk_put (cs := #[.bool false, .int .i64 0, .int .i64 0, .int .i64 0]) ?_ 2 _ rfl; (with_reducible repeat (first | refine blk_drewN ?_ _ | refine blk_drew ?_ | refine blk_alloc ?_ _)); refine blk_put (cs := #[.bool false, .int .i64 0, .int .i64 0, .int .i64 0]) ?_ 1 _ rfl; (with_reducible repeat (first | refine blk_drewN ?_ _ | refine blk_drew ?_ | refine blk_alloc ?_ _)); refine blk_put (cs := #[.bool false, .int .i64 0, .int .i64 0, .int .i64 0]) ?_ 0 _ rfl; (with_reducible repeat (first | refine blk_drewN ?_ _ | refine blk_drew ?_ | refine blk_alloc ?_ _)); exact BK120.out) Try.underlying53 rfl (by kernel_rfl)) rfl ?_
          exact ⟨by first | rfl | (simp [errW_none, errW_some] <;> rfl) | (simp [*, errW_none, errW_some] <;> rfl), by repeat (first | (with_reducible first | exact HB.out | apply below_alloc | apply pw_below_drewN | apply below_drew1 | refine below_set ?_ GE120.out) | exact HB.out)⟩

/-! ### impl_size: function 50 -/
def impl_size.f (a0 : Int) (a1 : Int) : Option (Int × Bool) := if a1 = 32 then (some (Go.bits .and .i64 a0 2147483647, ((a0 / 2147483648) == 1))) else (some (Go.bits .and .i64 a0 9223372036854775807, decide (a0 < 0)))
set_option maxHeartbeats 8000000 in
set_option maxRecDepth 100000 in
theorem impl_size.calls (a0 : Int) (a1 : Int) (r1 : Int) (r2 : Bool) (w : World) (h : impl_size.f a0 a1 = some (r1, r2)) :
    Calls Try.prog 50 #[.int .i64 a0, .int .i64 a1] w fun e w' => e = .returned (.tuple #[.int .i64 r1, .bool r2]) ∧ Drawn0 w w' := by
  have H : (if a1 = 32 then (some (Go.bits .and .i64 a0 2147483647, ((a0 / 2147483648) == 1))) else (some (Go.bits .and .i64 a0 9223372036854775807, decide (a0 < 0)))) = some (r1, r2) := h
  clear h
  by_cases c3 : a1 = 32
  · rw [if_pos c3] at H
    have c3b0 : (a1 == 32) = true := beq_iff_eq.mpr c3
    have c3b1 : (a1 != 32) = false := bne_eq_false_iff_eq.mpr c3
    clear c3
    simp only [Option.some.injEq, Prod.mk.injEq] at H
    obtain ⟨rfl, rfl⟩ := H
    go_enter Try.func50, Try.ntmps50
    go_wp2
    go_ret2
    exact ⟨by first | rfl | (simp; done) | (simp [*]; done), by repeat (first | exact Drawn0.refl _ | apply Drawn0.step)⟩
  · rw [if_neg c3] at H
    have c3b0 : (a1 == 32) = false := beq_eq_false_iff_ne.mpr c3
    have c3b1 : (a1 != 32) = true := bne_iff_ne.mpr c3
    simp only [Option.some.injEq, Prod.mk.injEq] at H
    obtain ⟨rfl, rfl⟩ := H
    go_enter Try.func50, Try.ntmps50
    go_wp2
    go_ret2
    exact ⟨by first | rfl | (simp; done) | (simp [*]; done), by repeat (first | exact Drawn0.refl _ | apply Drawn0.step)⟩

-- NOT PRINTED: function 51 (math_Float64bits)

-- NOT PRINTED: function 52 (math_Float32frombits)

/-! ### impl_Widen: function 16, by hand -/
open Go.Proofs.Ytmmdkjihigadcaa.FloatW Go.Proofs.Ytmmdkjihigadcaa.Lib
def impl_Widen_out (s : Bool) : Int := if s = true then -9223372036854775808 else 0
def impl_Widen.f (k : Nat) (x : Int) : Option (Int × Bool) := (impl_partsOf.f k x 32).bind fun p => if p.2.2.2.2 = true then (if p.2.1 = 255 then some (Go.bits .or .i64 (Go.bits .or .i64 (impl_Widen_out p.1) 9218868437227405312) (wrap64 (p.2.2.1 * 536870912)), true) else (impl_size.f x 32).bind fun n => some (Go.bits .or .i64 (impl_Widen_out p.1) (wrap64 ((wm (n.1 % 4294967296).toNat : Nat) : Int)), true)) else some (0, false)
theorem impl_Widen.mono : ∀ x k, LeO (impl_Widen.f k x) (impl_Widen.f (k + 1) x) := by
  intro x k
  unfold impl_Widen.f
  repeat' first
      | (with_reducible exact impl_partsOf.mono _ _ _)
      | (with_reducible exact LeO.refl _)
      | (with_reducible refine LeO.ite ?_ ?_)
      | (with_reducible refine LeO.bind ?_ (fun _ => ?_))
theorem impl_Widen_bitor (s : Bool) (v : Int) (h0 : 0 ≤ v) (h1 : v < 9223372036854775808) : Go.bits .or .i64 (impl_Widen_out s) v = (if s = true then v - 9223372036854775808 else v) := by
  unfold impl_Widen_out
  cases s with
  | false =>
    simp only [Bool.false_eq_true, if_false]
    rw [or_i64 0 0 v (by omega) (by decide) h0 (by omega) (by omega) (by omega)]; omega
  | true =>
    simp only [if_true]
    have hx : ((BitVec.ofInt 64 v).toNat : Int) = v := by rw [toNat_i64]; omega
    have hm : (BitVec.ofInt 64 (-9223372036854775808)).toNat = 2 ^ 63 := by decide
    show IntKind.wrap .i64 (((BitVec.ofInt 64 (-9223372036854775808) ||| BitVec.ofInt 64 v).toNat : Nat) : Int) = _
    rw [BitVec.toNat_or, hm]
    have hv : (BitVec.ofInt 64 v).toNat < 2 ^ 63 := by omega
    have := Nat.two_pow_add_eq_or_of_lt hv 1
    rw [Nat.mul_one] at this
    rw [← this, wi64]
    unfold wrap64
    omega
/-- The 64 bits of a float of 32 bits. -/
def impl_Widen_w (y : Int) : Int := if 2147483648 ≤ y then ((wm (y - 2147483648).toNat : Nat) : Int) - 9223372036854775808 else ((wm y.toNat : Nat) : Int)
theorem impl_Widen_wide (k : Nat) (y : Int) (h0 : 0 ≤ y) (h1 : y ≤ 4294967295) : impl_Widen.f (k + 1) y = some (impl_Widen_w y, true) := by
  have hp : impl_partsOf.f (k + 1) y 32 = some ((y / 2147483648 == 1), y / 8388608 % 256, y % 8388608, 255, true) := by
    unfold impl_partsOf.f impl_within.f
    rw [if_pos rfl, if_pos h0]
    simp only [Option.bind_some, impl_partsOf.j0]
    rw [if_pos (decide_eq_true h1), show Go.bits .and .i64 (y / 8388608) 255 = y / 8388608 % 256 from and_i64 8 (by decide) _, show Go.bits .and .i64 y 8388607 = y % 8388608 from and_i64 23 (by decide) _]
  have hs : impl_size.f y 32 = some (y % 2147483648, y / 2147483648 == 1) := by
    unfold impl_size.f
    rw [if_pos rfl, show Go.bits .and .i64 y 2147483647 = y % 2147483648 from and_i64 31 (by decide) _]
  have hsgn : (y / 2147483648 == 1) = true ↔ 2147483648 ≤ y := by rw [beq_iff_eq]; omega
  have hwm : wm (y % 2147483648).toNat < 9223372036854775808 := wm_lt _ (by omega)
  have hmag : (if 2147483648 ≤ y then (y - 2147483648).toNat else y.toNat) = (y % 2147483648).toNat := by split <;> omega
  have hw : impl_Widen_w y = if (y / 2147483648 == 1) = true then ((wm (y % 2147483648).toNat : Nat) : Int) - 9223372036854775808 else ((wm (y % 2147483648).toNat : Nat) : Int) := by
    unfold impl_Widen_w
    by_cases h : 2147483648 ≤ y
    · rw [if_pos h, if_pos (hsgn.2 h), show (y - 2147483648).toNat = (y % 2147483648).toNat by omega]
    · rw [if_neg h, if_neg (fun e => h (hsgn.1 e)), show y.toNat = (y % 2147483648).toNat by omega]
  unfold impl_Widen.f
  rw [hp]
  simp only [Option.bind_some, if_true]
  by_cases h5 : y / 8388608 % 256 = 255
  · rw [if_pos h5]
    have e1 : Go.bits .or .i64 (Go.bits .or .i64 (impl_Widen_out (y / 2147483648 == 1)) 9218868437227405312) (wrap64 (y % 8388608 * 536870912)) = impl_Widen_w y := by
      have hz : wm (y % 2147483648).toNat = 9218868437227405312 + (y % 8388608 * 536870912).toNat := by
        unfold wm
        rw [if_neg (by omega), if_neg (by omega), if_neg (by omega)]
        omega
      rw [w64 (by omega) (by omega), impl_Widen_bitor _ _ (by omega) (by omega), hw, hz]
      cases (y / 2147483648 == 1) with
      | true =>
        simp only [if_true]
        have : (9218868437227405312 : Int) - 9223372036854775808 = -4503599627370496 := by decide
        rw [this]
        have ha : Go.bits .or .i64 (-4503599627370496) (y % 8388608 * 536870912) = -4503599627370496 + y % 8388608 * 536870912 := by
          have hx : ((BitVec.ofInt 64 (y % 8388608 * 536870912)).toNat : Int) = y % 8388608 * 536870912 := by rw [toNat_i64]; omega
          have hm : (BitVec.ofInt 64 (-4503599627370496)).toNat = 2 ^ 52 * 4095 := by decide
          show IntKind.wrap .i64 (((BitVec.ofInt 64 (-4503599627370496) ||| BitVec.ofInt 64 (y % 8388608 * 536870912)).toNat : Nat) : Int) = _
          rw [BitVec.toNat_or, hm]
          have hv : (BitVec.ofInt 64 (y % 8388608 * 536870912)).toNat < 2 ^ 52 := by omega
          have := Nat.two_pow_add_eq_or_of_lt hv 4095
          rw [← this, wi64]
          unfold wrap64
          omega
        rw [ha]; omega
      | false =>
        simp only [Bool.false_eq_true, if_false]
        rw [bits_or_comm, or_i64 52 (y % 8388608 * 536870912) 9218868437227405312 (by omega) (by omega) (by omega) (by omega) (by decide) (by omega)]
        omega
    rw [e1]
  · rw [if_neg h5, hs]
    simp only [Option.bind_some]
    have e1 : (y % 2147483648 % 4294967296).toNat = (y % 2147483648).toNat := by omega
    rw [e1, w64 (by omega) (by omega), impl_Widen_bitor _ _ (by omega) (by omega), hw]
theorem impl_Widen_not (k : Nat) (y : Int) (h : ¬ (0 ≤ y ∧ y ≤ 4294967295)) : impl_Widen.f (k + 1) y = some (0, false) := by
  have hp : impl_partsOf.f (k + 1) y 32 = some (false, 0, 0, 0, false) := by
    unfold impl_partsOf.f impl_within.f
    rw [if_pos rfl]
    by_cases h0 : y ≥ 0
    · rw [if_pos h0]
      simp only [Option.bind_some, impl_partsOf.j0]
      rw [if_neg (by simpa using fun e => h ⟨h0, e⟩), if_neg (by decide)]
    · rw [if_neg h0]
      simp only [Option.bind_some, impl_partsOf.j0]
      rw [if_neg (by decide), if_neg (by decide)]
  unfold impl_Widen.f
  rw [hp]
  simp only [Option.bind_some, Bool.false_eq_true, if_false]
theorem impl_Widen_fin {k : Nat} {x p1 p2 p3 n : Int} {s t : Bool} (h : impl_partsOf.f k x 32 = some (s, p1, p2, p3, true)) (hn : impl_size.f x 32 = some (n, t)) (h5 : ¬ p1 = 255) : (n % 4294967296).toNat < 2139095040 := by
  have a31 : n = x % 2147483648 := by
    unfold impl_size.f at hn
    rw [if_pos rfl] at hn
    have : Go.bits .and .i64 x 2147483647 = n := by simpa using congrArg (Option.map Prod.fst) hn
    rw [← this]
    exact and_i64 31 (by decide) x
  have a255 : p1 = x / 8388608 % 256 := by
    cases k with
    | zero => unfold impl_partsOf.f impl_within.f at h; split at h <;> simp [impl_partsOf.j0] at h
    | succ k =>
      unfold impl_partsOf.f impl_within.f at h
      rw [if_pos rfl] at h
      have e : Go.bits .and .i64 (x / 8388608) 255 = x / 8388608 % 256 := and_i64 8 (by decide) _
      rw [← e]
      split at h
      · simp only [Option.bind_some, impl_partsOf.j0] at h
        split at h
        · simp only [Option.some.injEq, Prod.mk.injEq] at h; exact h.2.1.symm
        · simp at h
      · simp [impl_partsOf.j0] at h
  omega
set_option maxHeartbeats 8000000 in
set_option maxRecDepth 100000 in
theorem impl_Widen.calls (k : Nat) (a0 : Int) (r1 : Int) (r2 : Bool) (w : World) (h : impl_Widen.f k a0 = some (r1, r2)) :
    Calls Try.prog 16 #[.int .i64 a0] w fun e w' => e = .returned (.tuple #[.int .i64 r1, .bool r2]) ∧ Below w.heap.size w w' := by
  unfold impl_Widen.f at h
  obtain ⟨⟨s, p1, p2, p3, ok⟩, hp, h⟩ := Option.bind_eq_some_iff.mp h
  have HP := Aside0.mk hp
  cases ok with
  | false =>
    rw [if_neg Bool.false_ne_true] at h
    obtain ⟨rfl, rfl⟩ : 0 = r1 ∧ false = r2 := by simpa using h
    clear h hp
    go_enter Try.func16, Try.ntmps16
    go_wp2_with (go_at_call 49; (with_reducible refine (impl_partsOf.calls _ _ _ _ _ _ _ _ _ HP.out).mono ?_); rintro e w1 ⟨rfl, hb1⟩; have HB1 := Aside0.mk hb1; clear hb1)
    go_ret2
    exact ⟨rfl, below_alloc HB1.out _⟩
  | true =>
    rw [if_pos rfl] at h
    have hpr : (k : Nat) → True := fun _ => trivial
    by_cases h5 : p1 = 255
    · rw [if_pos h5] at h
      have hr := Option.some.inj h
      simp only [Prod.mk.injEq] at hr
      obtain ⟨hr1, rfl⟩ := hr
      have HR := Aside0.mk hr1
      have h51 : (p1 == 255) = true := beq_iff_eq.mpr h5
      clear h hp h5 hr1
      cases s with
      | true =>
        go_enter Try.func16, Try.ntmps16
        go_wp2_with (go_at_call 49; (with_reducible refine (impl_partsOf.calls _ _ _ _ _ _ _ _ _ HP.out).mono ?_); rintro e w1 ⟨rfl, hb1⟩; have HB1 := Aside0.mk hb1; clear hb1)
        go_ret2
        refine ⟨?_, below_alloc HB1.out _⟩
        rw [← HR.out]; rfl
      | false =>
        go_enter Try.func16, Try.ntmps16
        go_wp2_with (go_at_call 49; (with_reducible refine (impl_partsOf.calls _ _ _ _ _ _ _ _ _ HP.out).mono ?_); rintro e w1 ⟨rfl, hb1⟩; have HB1 := Aside0.mk hb1; clear hb1)
        go_ret2
        refine ⟨?_, below_alloc HB1.out _⟩
        rw [← HR.out]; rfl
    · rw [if_neg h5] at h
      obtain ⟨⟨n, t⟩, hn, h⟩ := Option.bind_eq_some_iff.mp h
      have hr := Option.some.inj h
      simp only [Prod.mk.injEq] at hr
      obtain ⟨hr1, rfl⟩ := hr
      have HR := Aside0.mk hr1
      have HN := Aside0.mk hn
      have hfin := impl_Widen_fin hp hn h5
      have hcv : ∀ W : World, (convert 59 58 (Value.float .f32 (n % 4294967296).toNat)).run Try.prog W = .ok (Value.float .f64 (wm (n % 4294967296).toNat)) W := fun W => run_convert_float_float W 59 58 .f32 .f64 _ _ (by kernel_rfl) (by kernel_rfl) (wide_bits _ hfin)
      have hxa : ∀ (m : Int) (W : World), (callFunc 52 #[.int .u32 m]).run Try.prog W = .ok (.value (.float .f32 m.toNat)) W := fun m W => by
        rw [run_callFunc_extern (e := Extern.MathFloatBits.float32frombits) Try.func52 (by kernel_rfl) rfl (by kernel_rfl) (by kernel_rfl)]; rfl
      have hxb : ∀ (m : Nat) (W : World), (callFunc 51 #[.float .f64 m]).run Try.prog W = .ok (.value (.int .u64 m)) W := fun m W => by
        rw [run_callFunc_extern (e := Extern.MathFloatBits.float64bits) Try.func51 (by kernel_rfl) rfl (by kernel_rfl) (by kernel_rfl)]; rfl
      have h51 : (p1 == 255) = false := beq_eq_false_iff_ne.mpr h5
      clear h hp h5 hr1 hn hfin
      cases s with
      | true =>
        go_enter Try.func16, Try.ntmps16
        go_wp2_with (first | (go_at_call 49; (with_reducible refine (impl_partsOf.calls _ _ _ _ _ _ _ _ _ HP.out).mono ?_); rintro e w1 ⟨rfl, hb1⟩; have HB1 := Aside0.mk hb1; clear hb1) | (go_at_call 50; (with_reducible refine (impl_size.calls _ _ _ _ _ HN.out).mono ?_); rintro e w' ⟨rfl, ⟨n1, rfl⟩⟩))
        go_ret2
        refine ⟨?_, by repeat (first | exact HB1.out | apply pw_below_drewN | apply below_alloc)⟩
        rw [← HR.out]; rfl
      | false =>
        go_enter Try.func16, Try.ntmps16
        go_wp2_with (first | (go_at_call 49; (with_reducible refine (impl_partsOf.calls _ _ _ _ _ _ _ _ _ HP.out).mono ?_); rintro e w1 ⟨rfl, hb1⟩; have HB1 := Aside0.mk hb1; clear hb1) | (go_at_call 50; (with_reducible refine (impl_size.calls _ _ _ _ _ HN.out).mono ?_); rintro e w' ⟨rfl, ⟨n1, rfl⟩⟩))
        go_ret2
        refine ⟨?_, by repeat (first | exact HB1.out | apply pw_below_drewN | apply below_alloc)⟩
        rw [← HR.out]; rfl

-- NOT PRINTED: function 60 (math_Float32bits)

-- NOT PRINTED: function 61 (math_Float64frombits)

/-! ### impl_Narrow: function 32, by hand -/
open Go.Proofs.Ytmmdkjihigadcaa.FloatW Go.Proofs.Ytmmdkjihigadcaa.Lib
def impl_Narrow_out (s : Bool) : Int := if s = true then 2147483648 else 0
/-- What is tried: the 32 bits that Widen is to lead back. -/
def impl_Narrow_try (s : Bool) (p r n : Int) : Int := if p = 2047 then Go.bits .or .i64 (impl_Narrow_out s) (Go.bits .or .i64 2139095040 (r / 536870912)) else Go.bits .or .i64 (impl_Narrow_out s) (wrap64 (((floatToFloatBits .f64 (IntKind.u64.wrap n).toNat .f32).getD 0 : Nat) : Int))
def impl_Narrow.f (k : Nat) (x : Int) : Option (Int × Bool) := (impl_partsOf.f k x 64).bind fun p => (impl_size.f x 64).bind fun n => (impl_Widen.f k (impl_Narrow_try p.1 p.2.1 p.2.2.1 n.1)).bind fun b => if b.2 = true then (if b.1 = x then some (impl_Narrow_try p.1 p.2.1 p.2.2.1 n.1, true) else some (0, false)) else some (0, false)
theorem impl_Narrow.mono : ∀ x k, LeO (impl_Narrow.f k x) (impl_Narrow.f (k + 1) x) := by
  intro x k
  unfold impl_Narrow.f
  repeat' first
      | (with_reducible exact impl_partsOf.mono _ _ _)
      | (with_reducible exact impl_Widen.mono _ _)
      | (with_reducible exact LeO.refl _)
      | (with_reducible refine LeO.ite ?_ ?_)
      | (with_reducible refine LeO.bind ?_ (fun _ => ?_))
theorem impl_Narrow_parts {k : Nat} {x p1 p2 p3 n : Int} {s ok t : Bool} (h : impl_partsOf.f k x 64 = some (s, p1, p2, p3, ok)) (hn : impl_size.f x 64 = some (n, t)) : ok = true ∧ (∃ m, k = m + 1) ∧ n = x % 9223372036854775808 ∧ p1 = x / 4503599627370496 % 2048 ∧ s = decide (x < 0) := by
  have a63 : n = x % 9223372036854775808 := by
    unfold impl_size.f at hn
    rw [if_neg (by decide)] at hn
    have : Go.bits .and .i64 x 9223372036854775807 = n := by simpa using congrArg (Option.map Prod.fst) hn
    rw [← this]
    exact and_i64 63 (by decide) x
  cases k with
  | zero => unfold impl_partsOf.f at h; rw [if_neg (by decide)] at h; simp [impl_partsOf.j0] at h
  | succ k =>
    unfold impl_partsOf.f at h
    rw [if_neg (by decide)] at h
    simp only [impl_partsOf.j0, Bool.false_eq_true, if_false, if_true] at h
    simp only [Option.some.injEq, Prod.mk.injEq] at h
    obtain ⟨h1, h2, h3, h4, h5⟩ := h
    exact ⟨h5.symm, ⟨k, rfl⟩, a63, by rw [← h2]; exact and_i64 11 (by decide) _, h1.symm⟩
/-- Who is widened to these bits is told by the conversion back. -/
theorem impl_Narrow_back (x y : Int) (h0 : 0 ≤ y) (h1 : y ≤ 4294967295) (h : impl_Widen_w y = x) (hf : ¬ x / 4503599627370496 % 2048 = 2047) :
    floatToFloatBits .f64 (IntKind.u64.wrap (x % 9223372036854775808)).toNat .f32 = some (y % 2147483648).toNat ∧ (2147483648 ≤ y ↔ x < 0) := by
  have hwm : wm (y % 2147483648).toNat < 9223372036854775808 := wm_lt _ (by omega)
  have hm : x % 9223372036854775808 = ((wm (y % 2147483648).toNat : Nat) : Int) ∧ (2147483648 ≤ y ↔ x < 0) := by
    unfold impl_Widen_w at h
    by_cases hy : 2147483648 ≤ y
    · rw [if_pos hy, show (y - 2147483648).toNat = (y % 2147483648).toNat by omega] at h
      omega
    · rw [if_neg hy, show y.toNat = (y % 2147483648).toNat by omega] at h
      omega
  obtain ⟨e1, e2⟩ := hm
  refine ⟨?_, e2⟩
  have hfin : (y % 2147483648).toNat < 2139095040 := by
    rcases Nat.lt_or_ge (y % 2147483648).toNat 2139095040 with h | h
    · exact h
    · exfalso
      have : wm (y % 2147483648).toNat = (y % 2147483648).toNat * 536870912 + 1792 * 4503599627370496 := by
        unfold wm; rw [if_neg (by omega), if_neg (by omega), if_neg (by omega)]
      omega
  rw [e1, wu64_id (by omega) (by omega), Int.toNat_natCast]
  exact back_bits _ hfin
set_option maxHeartbeats 8000000 in
set_option maxRecDepth 100000 in
theorem impl_Narrow.calls (k : Nat) (a0 : Int) (r1 : Int) (r2 : Bool) (w : World) (h : impl_Narrow.f k a0 = some (r1, r2)) :
    Calls Try.prog 32 #[.int .i64 a0] w fun e w' => e = .returned (.tuple #[.int .i64 r1, .bool r2]) ∧ Below w.heap.size w w' := by
  unfold impl_Narrow.f at h
  replace h := Option.bind_eq_some_iff.mp h
  obtain ⟨⟨s, p1, p2, p3, ok⟩, hp, h2⟩ := h
  replace h2 := Option.bind_eq_some_iff.mp h2
  obtain ⟨⟨n, t⟩, hn, h3⟩ := h2
  replace h3 := Option.bind_eq_some_iff.mp h3
  obtain ⟨⟨b1, b2⟩, hb, h⟩ := h3
  obtain ⟨rfl, ⟨k, rfl⟩, hn1, hp1, hs1⟩ := impl_Narrow_parts hp hn
  have HP := Aside0.mk hp
  have HN := Aside0.mk hn
  simp only at h hb
  have out : ∀ c : Int, (if b2 = true then (if b1 = a0 then some (c, true) else some (0, false)) else some (0, false)) = some (r1, r2) → (b2 = false ∧ 0 = r1 ∧ false = r2) ∨ (b2 = true ∧ b1 = a0 ∧ c = r1 ∧ true = r2) ∨ (b2 = true ∧ ¬ b1 = a0 ∧ 0 = r1 ∧ false = r2) := by
    intro c hc
    cases b2 with
    | false => left; rw [if_neg Bool.false_ne_true] at hc; simpa using hc
    | true =>
      right
      rw [if_pos rfl] at hc
      by_cases e : b1 = a0
      · left; rw [if_pos e] at hc; exact ⟨rfl, e, by simpa using hc⟩
      · right; rw [if_neg e] at hc; exact ⟨rfl, e, by simpa using hc⟩
  by_cases h5 : p1 = 2047
  · have h51 : (p1 == 2047) = true := beq_iff_eq.mpr h5
    have ht : impl_Narrow_try s p1 p2 n = Go.bits .or .i64 (impl_Narrow_out s) (Go.bits .or .i64 2139095040 (p2 / 536870912)) := by unfold impl_Narrow_try; rw [if_pos h5]
    rw [ht] at h hb
    have ho := out _ h
    have HW := Aside0.mk hb
    clear hp hn hb ht h5 hp1 hn1 hs1 out h
    cases s
    all_goals
      simp only [impl_Narrow_out, if_true, Bool.false_eq_true, if_false] at ho HW
      rcases ho with ⟨rfl, rfl, rfl⟩ | ⟨rfl, hx, rfl, rfl⟩ | ⟨rfl, hx, rfl, rfl⟩
      all_goals
        first | have hx1 : (b1 != a0) = false := bne_eq_false_iff_eq.mpr hx | have hx1 : (b1 != a0) = true := bne_iff_ne.mpr hx | skip
        try clear hx
        go_enter Try.func32, Try.ntmps32
        go_wp2_with (first | (go_at_call 49; (with_reducible refine (impl_partsOf.calls _ _ _ _ _ _ _ _ _ HP.out).mono ?_); rintro e w1 ⟨rfl, hb1⟩; have HB1 := Aside0.mk hb1; clear hb1) | (go_at_call 50; (with_reducible refine (impl_size.calls _ _ _ _ _ HN.out).mono ?_); rintro e w' ⟨rfl, ⟨n1, rfl⟩⟩) | (go_at_call 16; (with_reducible refine (impl_Widen.calls _ _ _ _ _ HW.out).mono ?_); rintro e w2 ⟨rfl, hb1⟩; have HB2 := Aside0.mk (below_step (by repeat (first | exact HB1.out | apply pw_below_drewN | apply below_alloc)) hb1); clear hb1))
        go_ret2
        exact ⟨rfl, HB2.out⟩
  · have h51 : (p1 == 2047) = false := beq_eq_false_iff_ne.mpr h5
    have hxa : ∀ (m : Int) (W : World), (callFunc 61 #[.int .u64 m]).run Try.prog W = .ok (.value (.float .f64 m.toNat)) W := fun m W => by
      rw [run_callFunc_extern (e := Extern.MathFloatBits.float64frombits) Try.func61 (by kernel_rfl) rfl (by kernel_rfl) (by kernel_rfl)]; rfl
    have hxb : ∀ (m : Nat) (W : World), (callFunc 60 #[.float .f32 m]).run Try.prog W = .ok (.value (.int .u32 m)) W := fun m W => by
      rw [run_callFunc_extern (e := Extern.MathFloatBits.float32bits) Try.func60 (by kernel_rfl) rfl (by kernel_rfl) (by kernel_rfl)]; rfl
    cases hcv : floatToFloatBits .f64 (IntKind.u64.wrap n).toNat .f32 with
    | some q =>
      have hcw : ∀ W : World, (convert 58 59 (Value.float .f64 (IntKind.u64.wrap n).toNat)).run Try.prog W = .ok (Value.float .f32 q) W := fun W => run_convert_float_float W 58 59 .f64 .f32 _ _ (by kernel_rfl) (by kernel_rfl) hcv
      have ht : impl_Narrow_try s p1 p2 n = Go.bits .or .i64 (impl_Narrow_out s) (wrap64 (q : Int)) := by unfold impl_Narrow_try; rw [if_neg h5, hcv]; rfl
      rw [ht] at h hb
      have ho := out _ h
      have HW := Aside0.mk hb
      clear hp hn hb ht h5 hp1 hn1 hs1 out h hcv
      cases s
      all_goals
        simp only [impl_Narrow_out, if_true, Bool.false_eq_true, if_false] at ho HW
        rcases ho with ⟨rfl, rfl, rfl⟩ | ⟨rfl, hx, rfl, rfl⟩ | ⟨rfl, hx, rfl, rfl⟩
        all_goals
          first | have hx1 : (b1 != a0) = false := bne_eq_false_iff_eq.mpr hx | have hx1 : (b1 != a0) = true := bne_iff_ne.mpr hx | skip
          try clear hx
          go_enter Try.func32, Try.ntmps32
          go_wp2_with (first | (go_at_call 49; (with_reducible refine (impl_partsOf.calls _ _ _ _ _ _ _ _ _ HP.out).mono ?_); rintro e w1 ⟨rfl, hb1⟩; have HB1 := Aside0.mk hb1; clear hb1) | (go_at_call 50; (with_reducible refine (impl_size.calls _ _ _ _ _ HN.out).mono ?_); rintro e w' ⟨rfl, ⟨n1, rfl⟩⟩) | (go_at_call 16; (with_reducible refine (impl_Widen.calls _ _ _ _ _ HW.out).mono ?_); rintro e w2 ⟨rfl, hb1⟩; have HB2 := Aside0.mk (below_step (by repeat (first | exact HB1.out | apply pw_below_drewN | apply below_alloc)) hb1); clear hb1))
          go_ret2
          exact ⟨rfl, HB2.out⟩
    | none =>
      have hne : ∀ y : Int, 0 ≤ y → y ≤ 4294967295 → ¬ impl_Widen_w y = a0 := by
        intro y y0 y1 e
        obtain ⟨e1, _⟩ := impl_Narrow_back a0 y y0 y1 e (by rw [← hp1]; exact h5)
        rw [← hn1, hcv] at e1
        cases e1
      have hor : ∀ q : Nat, q < 4294967296 → 0 ≤ Go.bits .or .i64 (impl_Narrow_out s) (wrap64 (q : Int)) ∧ Go.bits .or .i64 (impl_Narrow_out s) (wrap64 (q : Int)) ≤ 4294967295 := by
        intro q hq
        have e : impl_Narrow_out s = ((if s = true then 2147483648 else 0 : Nat) : Int) := by unfold impl_Narrow_out; split <;> rfl
        have hs : (if s = true then 2147483648 else 0 : Nat) < 2 ^ 32 := by split <;> decide
        have := Nat.or_lt_two_pow hs (show q < 2 ^ 32 by omega)
        rw [w64 (by omega) (by omega), e, (bits_nat .i64 32 (by decide) (fun z z0 z1 => wraps_i64 z z0 (by omega)) _ q hs (by omega)).2]
        omega
      have ht : impl_Narrow_try s p1 p2 n = Go.bits .or .i64 (impl_Narrow_out s) (wrap64 ((0 : Nat) : Int)) := by unfold impl_Narrow_try; rw [if_neg h5, hcv]; rfl
      rw [ht] at h hb
      have hz := hor 0 (by decide)
      rw [impl_Widen_wide k _ hz.1 hz.2] at hb
      replace hb := Option.some.inj hb
      simp only [Prod.mk.injEq] at hb
      obtain ⟨rfl, rfl⟩ := hb
      rw [if_pos rfl, if_neg (hne _ hz.1 hz.2)] at h
      obtain ⟨rfl, rfl⟩ : 0 = r1 ∧ false = r2 := by simpa using h
      have hwd : ∀ q : Nat, q < 4294967296 → impl_Widen.f (k + 1) (Go.bits .or .i64 (impl_Narrow_out s) (wrap64 (q : Int))) = some (impl_Widen_w (Go.bits .or .i64 (impl_Narrow_out s) (wrap64 (q : Int))), true) := fun q hq => impl_Widen_wide k _ (hor q hq).1 (hor q hq).2
      have hbn : ∀ q : Nat, q < 4294967296 → (impl_Widen_w (Go.bits .or .i64 (impl_Narrow_out s) (wrap64 (q : Int))) != a0) = true := fun q hq => bne_iff_ne.mpr (hne _ (hor q hq).1 (hor q hq).2)
      have HWD := Aside0.mk hwd
      have HBN := Aside0.mk hbn
      let T : World → Nat := fun W => (Question.floatToFloat (IntKind.u64.wrap n).toNat).cut (W.tape W.drawn (Question.floatToFloat (IntKind.u64.wrap n).toNat))
      have hT : ∀ W, T W < 4294967296 := fun W => Nat.mod_lt _ (by decide)
      have hcw : ∀ W : World, (convert 58 59 (Value.float .f64 (IntKind.u64.wrap n).toNat)).run Try.prog W = .ok (Value.float .f32 (T W)) W.drew := by
        intro W
        have hN : (IntKind.u64.wrap n).toNat < 2047 * 4503599627370496 := by rw [hn1, wu64]; omega
        obtain ⟨m, e, hrd⟩ := finite_number _ hN
        have hd : FloatKind.f64.decode (IntKind.u64.wrap n).toNat = .number false m e := hrd
        have hinf : (FloatKind.f32.decode (FloatKind.f32.encode (.number false m e))).isInfinity = true := by
          unfold floatToFloatBits at hcv
          rw [if_neg (by decide)] at hcv
          simp only [hd] at hcv
          split at hcv
          · assumption
          · cases hcv
        have hs58 : Try.prog.underlying 58 = some (.float .f64) := by kernel_rfl
        have hs59 : Try.prog.underlying 59 = some (.float .f32) := by kernel_rfl
        have ne : ¬ (FloatKind.f64 = FloatKind.f32) := by decide
        simp [convert, run_underlying hs58, run_underlying hs59, Conv.floatToFloat, ne, hd, hinf, choose, Sem.run, Question.forced]
        rfl
      clear_value T
      have HT := Aside0.mk hT
      clear hp hn ht h5 hp1 hn1 hs1 out h hcv hne hor hz hwd hbn hT
      cases s
      · simp only [impl_Narrow_out, if_true, Bool.false_eq_true, if_false] at HWD HBN
        go_enter Try.func32, Try.ntmps32
        go_wp2_with (first | (go_at_call 49; (with_reducible refine (impl_partsOf.calls _ _ _ _ _ _ _ _ _ HP.out).mono ?_); rintro e w1 ⟨rfl, hb1⟩; have HB1 := Aside0.mk hb1; clear hb1) | (go_at_call 50; (with_reducible refine (impl_size.calls _ _ _ _ _ HN.out).mono ?_); rintro e w' ⟨rfl, ⟨n1, rfl⟩⟩) | (go_at_call 16; (with_reducible refine (impl_Widen.calls _ _ _ _ _ (HWD.out _ (HT.out _))).mono ?_); rintro e w2 ⟨rfl, hb1⟩; have HB2 := Aside0.mk (below_step (by repeat (first | exact HB1.out | apply below_drew1 | apply pw_below_drewN | apply below_alloc)) hb1); clear hb1; have hx1 := HBN.out _ (HT.out ((w1.alloc (.cells #[.bool false, .int .i64 p1, .int .i64 p2, .int .i64 p3] 53)).drewN n1))))
        go_ret2
        exact ⟨rfl, HB2.out⟩
      · simp only [impl_Narrow_out, if_true, Bool.false_eq_true, if_false] at HWD HBN
        go_enter Try.func32, Try.ntmps32
        go_wp2_with (first | (go_at_call 49; (with_reducible refine (impl_partsOf.calls _ _ _ _ _ _ _ _ _ HP.out).mono ?_); rintro e w1 ⟨rfl, hb1⟩; have HB1 := Aside0.mk hb1; clear hb1) | (go_at_call 50; (with_reducible refine (impl_size.calls _ _ _ _ _ HN.out).mono ?_); rintro e w' ⟨rfl, ⟨n1, rfl⟩⟩) | (go_at_call 16; (with_reducible refine (impl_Widen.calls _ _ _ _ _ (HWD.out _ (HT.out _))).mono ?_); rintro e w2 ⟨rfl, hb1⟩; have HB2 := Aside0.mk (below_step (by repeat (first | exact HB1.out | apply below_drew1 | apply pw_below_drewN | apply below_alloc)) hb1); clear hb1; have hx1 := HBN.out _ (HT.out ((w1.alloc (.cells #[.bool true, .int .i64 p1, .int .i64 p2, .int .i64 p3] 53)).drewN n1))))
        go_ret2
        exact ⟨rfl, HB2.out⟩

/-! ### laws_FnExactNarrow: function 8 -/
def laws_FnExactNarrow.f (k : Nat) (a0 : Int) : Option (Bool) := (spec_Narrow.f k a0).bind fun bt122 => ((impl_Narrow.f k a0).bind fun bt124 => (if bt124.1 = bt122.1 then (if (bt124.2 != bt122.2) = true then (some false) else (some true)) else (some false)))
theorem laws_FnExactNarrow.mono : ∀ a0 k, LeO (laws_FnExactNarrow.f k a0) (laws_FnExactNarrow.f (k + 1) a0) := by
  intro a0 k
  unfold laws_FnExactNarrow.f
  repeat' first
      | (with_reducible exact impl_Narrow.mono _ _)
      | (with_reducible exact spec_Narrow.mono _ _)
      | (with_reducible exact LeO.refl _)
      | (with_reducible exact LeO.none _)
      | (with_reducible refine LeO.ite ?_ ?_)
      | (with_reducible refine LeO.bind ?_ (fun _ => ?_))
      | exact impl_Narrow.mono _ _
      | exact spec_Narrow.mono _ _
      | exact LeO.none _
      | refine LeO.ite ?_ ?_
      | refine LeO.bind ?_ (fun _ => ?_)
set_option maxHeartbeats 8000000 in
set_option maxRecDepth 100000 in
theorem laws_FnExactNarrow.calls (k : Nat) (a0 : Int) (r : Bool) (w : World) (h : laws_FnExactNarrow.f k a0 = some r) :
    Calls Try.prog 8 #[.int .i64 a0] w fun e w' => e = .returned (.bool r) ∧ Below w.heap.size w w' := by
  have HB := Aside0.mk (Below.refl w.heap.size w)
  have H : ((spec_Narrow.f k a0).bind fun bt122 => ((impl_Narrow.f k a0).bind fun bt124 => (if bt124.1 = bt122.1 then (if (bt124.2 != bt122.2) = true then (some false) else (some true)) else (some false)))) = some r := h
  clear h
  replace H := Option.bind_eq_some_iff.mp H
  obtain ⟨⟨t122, t123⟩, A20, H⟩ := H
  replace H : ((impl_Narrow.f k a0).bind fun bt124 => (if bt124.1 = t122 then (if (bt124.2 != t123) = true then (some false) else (some true)) else (some false))) = some r := H
  have A2 := Aside0.mk A20
  clear A20
  replace H := Option.bind_eq_some_iff.mp H
  obtain ⟨⟨t124, t125⟩, A30, H⟩ := H
  replace H : (if t124 = t122 then (if (t125 != t123) = true then (some false) else (some true)) else (some false)) = some r := H
  have A3 := Aside0.mk A30
  clear A30
  by_cases c4 : t124 = t122
  · rw [if_pos c4] at H
    have c4b0 : (t124 == t122) = true := beq_iff_eq.mpr c4
    have c4b1 : (t124 != t122) = false := bne_eq_false_iff_eq.mpr c4
    clear c4
    by_cases c5 : (t125 != t123) = true
    · rw [if_pos c5] at H
      have c5b0 : (t125 != t123) = true := c5
      (try (have c5b1 : decide (t125 = t123) = false := by simpa using c5))
      (try (have c5b2 : (t125 == t123) = false := by simpa using c5))
      (try (have c5b3 : ¬ (t125 = t123) := by simpa using c5))
      clear c5
      obtain rfl := Option.some.inj H
      go_enter Try.func8, Try.ntmps8
      go_wp2_with (first | ((with_reducible refine gate_callee (f := 31) rfl ?_); refine goesL_ (some 9) rfl rfl Try.func31 (by kernel_rfl) rfl #[.int .i64 a0] rfl (by (try simp only [List.map_toArray, List.map_cons, List.map_nil]); first | done | rfl | (simp only [List.length_drop, List.length_take]; rfl)) ?_; (with_reducible refine (spec_Narrow.calls k a0 t122 t123 _ A2.out).mono ?_); rintro e w' ⟨rfl, ⟨nd, rfl⟩⟩; refine ⟨_, rfl, ?_⟩) | ((with_reducible refine gate_callee (f := 32) rfl ?_); refine goesL_ (some 14) rfl rfl Try.func32 (by kernel_rfl) rfl #[.int .i64 a0] rfl (by (try simp only [List.map_toArray, List.map_cons, List.map_nil]); first | done | rfl | (simp only [List.length_drop, List.length_take]; rfl)) ?_; (with_reducible refine (impl_Narrow.calls k a0 t124 t125 _ A3.out).mono ?_); rintro e w6 ⟨rfl, hb⟩; refine ⟨_, rfl, ?_⟩; have n0_ := Aside0.mk (below_step (by repeat (first | (with_reducible first | exact HB.out | apply below_alloc | apply pw_below_drewN | apply below_drew1) | exact HB.out)) hb); clear HB; have HB := n0_; clear n0_; (try clear hb); (try clear hb2); (try clear hk); (try clear hi)))
      go_ret
      exact ⟨by first | rfl | (simp [errW_none, errW_some] <;> rfl) | (simp [*, errW_none, errW_some] <;> rfl), by repeat (first | (with_reducible first | exact HB.out | apply below_alloc | apply pw_below_drewN | apply below_drew1) | exact HB.out)⟩
    · rw [if_neg c5] at H
      have c5b0 : (t125 != t123) = false := by simpa using c5
      (try (have c5b1 : decide (t125 = t123) = true := by simpa using c5))
      (try (have c5b2 : (t125 == t123) = true := by simpa using c5))
      clear c5
      obtain rfl := Option.some.inj H
      go_enter Try.func8, Try.ntmps8
      go_wp2_with (first | ((with_reducible refine gate_callee (f := 31) rfl ?_); refine goesL_ (some 9) rfl rfl Try.func31 (by kernel_rfl) rfl #[.int .i64 a0] rfl (by (try simp only [List.map_toArray, List.map_cons, List.map_nil]); first | done | rfl | (simp only [List.length_drop, List.length_take]; rfl)) ?_; (with_reducible refine (spec_Narrow.calls k a0 t122 t123 _ A2.out).mono ?_); rintro e w' ⟨rfl, ⟨nd, rfl⟩⟩; refine ⟨_, rfl, ?_⟩) | ((with_reducible refine gate_callee (f := 32) rfl ?_); refine goesL_ (some 14) rfl rfl Try.func32 (by kernel_rfl) rfl #[.int .i64 a0] rfl (by (try simp only [List.map_toArray, List.map_cons, List.map_nil]); first | done | rfl | (simp only [List.length_drop, List.length_take]; rfl)) ?_; (with_reducible refine (impl_Narrow.calls k a0 t124 t125 _ A3.out).mono ?_); rintro e w7 ⟨rfl, hb⟩; refine ⟨_, rfl, ?_⟩; have n0_ := Aside0.mk (below_step (by repeat (first | (with_reducible first | exact HB.out | apply below_alloc | apply pw_below_drewN | apply below_drew1) | exact HB.out)) hb); clear HB; have HB := n0_; clear n0_; (try clear hb); (try clear hb2); (try clear hk); (try clear hi)))
      go_ret
      exact ⟨by first | rfl | (simp [errW_none, errW_some] <;> rfl) | (simp [*, errW_none, errW_some] <;> rfl), by repeat (first | (with_reducible first | exact HB.out | apply below_alloc | apply pw_below_drewN | apply below_drew1) | exact HB.out)⟩
  · rw [if_neg c4] at H
    have c4b0 : (t124 == t122) = false := beq_eq_false_iff_ne.mpr c4
    have c4b1 : (t124 != t122) = true := bne_iff_ne.mpr c4
    obtain rfl := Option.some.inj H
    go_enter Try.func8, Try.ntmps8
    go_wp2_with (first | ((with_reducible refine gate_callee (f := 31) rfl ?_); refine goesL_ (some 9) rfl rfl Try.func31 (by kernel_rfl) rfl #[.int .i64 a0] rfl (by (try simp only [List.map_toArray, List.map_cons, List.map_nil]); first | done | rfl | (simp only [List.length_drop, List.length_take]; rfl)) ?_; (with_reducible refine (spec_Narrow.calls k a0 t122 t123 _ A2.out).mono ?_); rintro e w' ⟨rfl, ⟨nd, rfl⟩⟩; refine ⟨_, rfl, ?_⟩) | ((with_reducible refine gate_callee (f := 32) rfl ?_); refine goesL_ (some 14) rfl rfl Try.func32 (by kernel_rfl) rfl #[.int .i64 a0] rfl (by (try simp only [List.map_toArray, List.map_cons, List.map_nil]); first | done | rfl | (simp only [List.length_drop, List.length_take]; rfl)) ?_; (with_reducible refine (impl_Narrow.calls k a0 t124 t125 _ A3.out).mono ?_); rintro e w8 ⟨rfl, hb⟩; refine ⟨_, rfl, ?_⟩; have n0_ := Aside0.mk (below_step (by repeat (first | (with_reducible first | exact HB.out | apply below_alloc | apply pw_below_drewN | apply below_drew1) | exact HB.out)) hb); clear HB; have HB := n0_; clear n0_; (try clear hb); (try clear hb2); (try clear hk); (try clear hi)))
    go_ret
    exact ⟨by first | rfl | (simp [errW_none, errW_some] <;> rfl) | (simp [*, errW_none, errW_some] <;> rfl), by repeat (first | (with_reducible first | exact HB.out | apply below_alloc | apply pw_below_drewN | apply below_drew1) | exact HB.out)⟩

/-- THE ONE PURE STATEMENT of laws_FnExactNarrow: yours. -/
def laws_FnExactNarrow.Pure : Prop := ∀ (a0 : Int), (Lit.int .i64 a0).wf = true → ∃ k, laws_FnExactNarrow.f k a0 = some true
theorem laws_FnExactNarrow.walk (P : laws_FnExactNarrow.Pure) (a0 : Int) (w : World) (w0 : (Lit.int .i64 a0).wf = true) :
    Calls Try.prog 8 #[.int .i64 a0] w fun e w' => e = .returned (.bool true) ∧ Below w.heap.size w w' := by
  obtain ⟨k, h⟩ := P a0 w0
  refine (laws_FnExactNarrow.calls k a0 true w h).mono ?_
  rintro e w' ⟨rfl, hd⟩
  exact ⟨rfl, hd⟩

end Go.Proofs.Ytmmdkjihigadcaa.PFnExactNarrow
