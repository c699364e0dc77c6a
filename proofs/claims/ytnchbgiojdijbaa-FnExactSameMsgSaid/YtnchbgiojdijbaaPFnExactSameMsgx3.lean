/- The functions that FnExactSameMsg reaches as Lean functions, each with its contract: laid by a program of this session (wip/print2.py) over the kit's print. -/
import Derived.Test.YtnchbgiojdijbaaPFnExactSameMsgx0
import Derived.Test.YtnchbgiojdijbaaPFnExactSameMsgx2
namespace Go.Proofs.Ytnchbgiojdijbaa.PFnExactSameMsg
open Go.RowKit Go.Proofs.YtnchbgiojdijbaaW.PrintWords Go.Proofs.YtnchbgiojdijbaaW.PrintLast Go.Proofs.YtnchbgiojdijbaaW.PrintMore
attribute [local go_sem] max2_int min2_int max_two min_two max_three min_three max_four min_four   -- for this text's walks alone
set_option linter.unusedVariables false
set_option linter.unusedSimpArgs false

/-! ### spec_SameMsg: function 29 -/
theorem z29q1 {p : Prop} (h : p := by repeat (first | (with_reducible first | exact HB.out | apply below_alloc | apply pw_below_drewN | apply below_drew1 | refine below_set ?_ GE183.out | refine below_set ?_ GE184.out | refine below_set ?_ GE187.out | refine below_set ?_ GE189.out) | exact HB.out)) : p := h
theorem z29q2 {p : Prop} (h : p := by first | (with_reducible assumption) | assumption) : p := h
theorem z29q3 {p : Prop} (h : p := by repeat (first | exact (Kd.C_below hr_ HB.out) | (with_reducible refine Kd.C_alloc ?_ _) | (with_reducible refine Kd.C_drewN ?_ _) | (with_reducible refine Kd.C_drew ?_))) : p := h
theorem z29q4 {p : Prop} (h : p := by (with_reducible repeat (first | refine blk_drewN ?_ _ | refine blk_drew ?_ | refine blk_alloc ?_ _)); refine blk_put (cs := #[.int .i64 ((rd_T89 l0_0 x5_2).f0), .slice none 0 0]) ?_ 1 _ rfl; (with_reducible repeat (first | refine blk_drewN ?_ _ | refine blk_drew ?_ | refine blk_alloc ?_ _)); refine blk_put (cs := #[.int .i64 0, .slice none 0 0]) ?_ 0 _ rfl; (with_reducible repeat (first | refine blk_drewN ?_ _ | refine blk_drew ?_ | refine blk_alloc ?_ _)); exact BK187.out) : p := h
theorem z29q5 {p : Prop} (h : p := by (with_reducible repeat (first | refine blk_drewN ?_ _ | refine blk_drew ?_ | refine blk_alloc ?_ _)); exact BK183.out) : p := h
theorem z29q6 {p : Prop} (h : p := by (with_reducible repeat (first | refine blk_drewN ?_ _ | refine blk_drew ?_ | refine blk_alloc ?_ _)); refine blk_far ?_ NB184_187.out _; (with_reducible repeat (first | refine blk_drewN ?_ _ | refine blk_drew ?_ | refine blk_alloc ?_ _)); refine blk_far ?_ NB184_187.out _; (with_reducible repeat (first | refine blk_drewN ?_ _ | refine blk_drew ?_ | refine blk_alloc ?_ _)); exact BK184.out) : p := h
theorem z29q7 {p : Prop} (h : p := by (with_reducible repeat (first | refine blk_drewN ?_ _ | refine blk_drew ?_ | refine blk_alloc ?_ _)); refine blk_far ?_ NB183_187.out _; (with_reducible repeat (first | refine blk_drewN ?_ _ | refine blk_drew ?_ | refine blk_alloc ?_ _)); refine blk_far ?_ NB183_187.out _; (with_reducible repeat (first | refine blk_drewN ?_ _ | refine blk_drew ?_ | refine blk_alloc ?_ _)); exact BK183.out) : p := h
theorem z29q8 {p : Prop} (h : p := by repeat (first | (with_reducible first | exact HB.out | apply below_alloc | apply pw_below_drewN | apply below_drew1 | refine below_set ?_ GE183.out | refine below_set ?_ GE184.out) | exact HB.out)) : p := h
theorem z29q9 {p : Prop} (h : p := by (with_reducible repeat (first | refine blk_drewN ?_ _ | refine blk_drew ?_ | refine blk_alloc ?_ _)); exact BK184.out) : p := h
theorem z29q10 {p : Prop} (h : p := by (with_reducible repeat (first | refine blk_drewN ?_ _ | refine blk_drew ?_ | refine blk_alloc ?_ _)); exact BK183.out) : p := h
theorem z29q11 {p : Prop} (h : p := by (with_reducible repeat (first | refine blk_drewN ?_ _ | refine blk_drew ?_ | refine blk_alloc ?_ _)); refine blk_put (cs := #[.int .i64 ((rd_T89 l1_0 x5_2).f0), .slice none 0 0]) ?_ 1 _ rfl; (with_reducible repeat (first | refine blk_drewN ?_ _ | refine blk_drew ?_ | refine blk_alloc ?_ _)); refine blk_put (cs := #[.int .i64 0, .slice none 0 0]) ?_ 0 _ rfl; (with_reducible repeat (first | refine blk_drewN ?_ _ | refine blk_drew ?_ | refine blk_alloc ?_ _)); exact BK189.out) : p := h
theorem z29q12 {p : Prop} (h : p := by (with_reducible repeat (first | refine blk_drewN ?_ _ | refine blk_drew ?_ | refine blk_alloc ?_ _)); exact BK184.out) : p := h
theorem z29q13 {p : Prop} (h : p := by first | rfl | (simp [errW_none, errW_some] <;> rfl) | (simp [*, errW_none, errW_some] <;> rfl)) : p := h
theorem z29q14 {p : Prop} (h : p := by repeat (first | (with_reducible first | exact HB.out | apply below_alloc | apply pw_below_drewN | apply below_drew1 | refine below_set ?_ GE183.out | refine below_set ?_ GE184.out | refine below_set ?_ GE187.out) | exact HB.out)) : p := h
theorem z29q15 {p : Prop} (h : p := by repeat (first | (with_reducible first | exact HB.out | apply below_alloc | apply pw_below_drewN | apply below_drew1 | refine below_set ?_ GE183.out | refine below_set ?_ GE184.out) | exact HB.out)) : p := h
theorem z29q16 {p : Prop} (h : p := by (with_reducible repeat (first | refine blk_drewN ?_ _ | refine blk_drew ?_ | refine blk_alloc ?_ _)); refine blk_far ?_ NB187_189.out _; (with_reducible repeat (first | refine blk_drewN ?_ _ | refine blk_drew ?_ | refine blk_alloc ?_ _)); refine blk_far ?_ NB187_189.out _; (with_reducible repeat (first | refine blk_drewN ?_ _ | refine blk_drew ?_ | refine blk_alloc ?_ _)); exact BK187.out) : p := h
theorem z29q17 {p : Prop} (h : p := by (with_reducible repeat (first | refine blk_drewN ?_ _ | refine blk_drew ?_ | refine blk_alloc ?_ _)); refine blk_far ?_ NB184_189.out _; (with_reducible repeat (first | refine blk_drewN ?_ _ | refine blk_drew ?_ | refine blk_alloc ?_ _)); refine blk_far ?_ NB184_189.out _; (with_reducible repeat (first | refine blk_drewN ?_ _ | refine blk_drew ?_ | refine blk_alloc ?_ _)); exact BK184.out) : p := h
theorem z29q18 {p : Prop} (h : p := by (with_reducible repeat (first | refine blk_drewN ?_ _ | refine blk_drew ?_ | refine blk_alloc ?_ _)); refine blk_far ?_ NB183_189.out _; (with_reducible repeat (first | refine blk_drewN ?_ _ | refine blk_drew ?_ | refine blk_alloc ?_ _)); refine blk_far ?_ NB183_189.out _; (with_reducible repeat (first | refine blk_drewN ?_ _ | refine blk_drew ?_ | refine blk_alloc ?_ _)); exact BK183.out) : p := h
theorem z29q19 {p : Prop} (h : p := by repeat (first | (with_reducible first | exact HB.out | apply below_alloc | apply pw_below_drewN | apply below_drew1 | refine below_set ?_ GE183.out) | exact HB.out)) : p := h
theorem z29q20 {p : Prop} (h : p := by first | rfl | (simp; done) | (simp [*]; done)) : p := h
theorem z29q21 {p : Prop} (h : p := by repeat (first | (with_reducible first | exact HB.out | apply below_alloc | apply pw_below_drewN | apply below_drew1) | exact HB.out)) : p := h
theorem z29q22 {p : Prop} (h : p := by repeat (first | (with_reducible first | exact HB.out | apply below_alloc | apply pw_below_drewN | apply below_drew1 | refine below_set ?_ GE183.out | refine below_set ?_ GE184.out | refine below_set ?_ GE187.out | refine below_set ?_ GE189.out) | exact HB.out)) : p := h
theorem z29q23 {p : Prop} (h : p := by (try simp only [List.map_toArray, List.map_cons, List.map_nil]); first | done | rfl | (simp only [List.length_drop, List.length_take]; rfl)) : p := h
theorem z29q24 {p : Prop} (h : p := by first | (rw [add_block]; exact hn188_1) | (show (Addr.add _ _).block ≠ _; rw [add_block]; exact hn188_1) | exact hn188_1) : p := h
theorem z29q25 {p : Prop} (h : p := by first | (rw [add_block]; exact hn188_0) | (show (Addr.add _ _).block ≠ _; rw [add_block]; exact hn188_0) | exact hn188_0) : p := h
theorem z29q26 {p : Prop} (h : p := by (with_reducible repeat (first | refine blk_drewN ?_ _ | refine blk_drew ?_ | refine blk_alloc ?_ _)); exact BK189.out) : p := h
theorem z29q27 {p : Prop} (h : p := by (with_reducible repeat (first | refine blk_drewN ?_ _ | refine blk_drew ?_ | refine blk_alloc ?_ _)); exact BK187.out) : p := h
theorem z29q28 {p : Prop} (h : p := by (with_reducible repeat (first | refine blk_drewN ?_ _ | refine blk_drew ?_ | refine blk_alloc ?_ _)); exact BK189.out) : p := h
theorem z29q29 {p : Prop} (h : p := by (with_reducible repeat (first | refine blk_drewN ?_ _ | refine blk_drew ?_ | refine blk_alloc ?_ _)); exact BK187.out) : p := h
theorem z29q30 {p : Prop} (h : p := by have := World.block_lt_of_cell? _ _ hx188_0; first | rwa [add_block] at this | exact this) : p := h
set_option maxHeartbeats 8000000 in
set_option maxRecDepth 100000 in
theorem spec_SameMsg.calls (k : Nat) : ∀ (A0_0 : Option Addr) (c0_0 : Nat) (l0_0 : List (S89)) (A0_1 : Option Addr) (c0_1 : Nat) (l0_1 : List Int) (A1_0 : Option Addr) (c1_0 : Nat) (l1_0 : List (S89)) (A1_1 : Option Addr) (c1_1 : Nat) (l1_1 : List Int) (r : Bool) (w : World) (hr0_0 : Kd.C k89 w A0_0 l0_0.length l0_0) (hc0_0 : l0_0.length ≤ c0_0) (hr0_1 : Kd.C (Kd.int .u8) w A0_1 l0_1.length l0_1) (hc0_1 : l0_1.length ≤ c0_1) (hr1_0 : Kd.C k89 w A1_0 l1_0.length l1_0) (hc1_0 : l1_0.length ≤ c1_0) (hr1_1 : Kd.C (Kd.int .u8) w A1_1 l1_1.length l1_1) (hc1_1 : l1_1.length ≤ c1_1) (h : spec_SameMsg.f k l0_0 l0_1 l1_0 l1_1 = some r),
    Calls Try.prog 29 #[.agg #[.slice A0_0 l0_0.length c0_0, .slice A0_1 l0_1.length c0_1], .agg #[.slice A1_0 l1_0.length c1_0, .slice A1_1 l1_1.length c1_1]] w fun e w' => e = .returned (.bool r) ∧ Below w.heap.size w w' := by
 induction k using Nat.strongRecOn with
 | _ k ih =>
 intro A0_0 c0_0 l0_0 A0_1 c0_1 l0_1 A1_0 c1_0 l1_0 A1_1 c1_1 l1_1 r w hr0_0 hc0_0 hr0_1 hc0_1 hr1_0 hc1_0 hr1_1 hc1_1 h; cases k with
 | zero => exact absurd h (by simp [spec_SameMsg.f])
 | succ k =>
 simp only [spec_SameMsg.f] at h; have hu57 := Try.underlying57; have hu89 := Try.underlying89; have HR0_0 := Aside0.mk hr0_0; have HC0_0 := Aside0.mk hc0_0; clear hr0_0 hc0_0; have HR0_1 := Aside0.mk hr0_1; have HC0_1 := Aside0.mk hc0_1; clear hr0_1 hc0_1; have HR1_0 := Aside0.mk hr1_0; have HC1_0 := Aside0.mk hc1_0; clear hr1_0 hc1_0; have HR1_1 := Aside0.mk hr1_1; have HC1_1 := Aside0.mk hc1_1; clear hr1_1 hc1_1; have HB := Aside0.mk (Below.refl w.heap.size w); have H : (if (l0_0.length : Int) = (l1_0.length : Int) then ((spec_l1Same.f k l0_1 l1_1).bind fun t185 => (spec_SameMsg.j0 k (!t185) l0_0 l0_1 l1_0 l1_1)) else (spec_SameMsg.j0 k true l0_0 l0_1 l1_0 l1_1)) = some r := h; clear h; have HC3 := Aside0.mk H; clear H; go_enter Try.func29, Try.ntmps29; go_upto_region 1 with (first | ((with_reducible refine gate_dst (N := 2) rfl ?_); (try (refine gate_guard (by rfl) ?_; dsimp only)); refine box_event ?hg (N := 2) ?hd (cs := #[.slice A0_0 l0_0.length c0_0, .slice A0_1 l0_1.length c0_1]) (t := 57) ?hr ?_; (case hd => rfl); (case hg => rfl); (case hr => first | (go_simp; done) | (go_simp; rfl)); intro gb183 hg w4 hbox hb; have n0_ := Aside0.mk (below_step z29q21 hb); have n1_ := Aside0.mk (hbox); have n2_ := Aside0.mk ((by rw [hg]; exact (below_size z29q21) : w.heap.size ≤ gb183)); have n3_ := Aside0.mk ((by rw [hg]; exact (below_size z29q21) : w.heap.size ≤ gb183)); clear HB; have HB := n0_; have BK183 := n1_; have GW183 := n2_; have GE183 := n3_; clear n0_ n1_ n2_ n3_; clear hb hbox hg) | ((with_reducible refine gate_dst (N := 3) rfl ?_); (try (refine gate_guard (by rfl) ?_; dsimp only)); refine box_event ?hg (N := 3) ?hd (cs := #[.slice A1_0 l1_0.length c1_0, .slice A1_1 l1_1.length c1_1]) (t := 57) ?hr ?_; (case hd => rfl); (case hg => rfl); (case hr => first | (go_simp; done) | (go_simp; rfl)); intro gb184 hg w5 hbox hb; have n0_ := Aside0.mk (blk_below (g := gb183) (o := .cells #[.slice A0_0 l0_0.length c0_0, .slice A0_1 l0_1.length c0_1] 57 (0, 0)) z29q5 hb); have n1_ := Aside0.mk (below_step z29q19 hb); have n2_ := Aside0.mk (hbox); have n3_ := Aside0.mk ((by rw [hg]; exact (below_size z29q19) : w.heap.size ≤ gb184)); have n4_ := Aside0.mk ((by rw [hg]; exact (below_size z29q19) : w.heap.size ≤ gb184)); have n5_ := Aside0.mk ((by rw [hg]; exact Nat.ne_of_lt (blk_lt (g := gb183) (o := .cells #[.slice A0_0 l0_0.length c0_0, .slice A0_1 l0_1.length c0_1] 57 (0, 0)) z29q5) : gb183 ≠ gb184)); have n6_ := Aside0.mk ((by rw [hg]; exact Nat.ne_of_gt (blk_lt (g := gb183) (o := .cells #[.slice A0_0 l0_0.length c0_0, .slice A0_1 l0_1.length c0_1] 57 (0, 0)) z29q5) : gb184 ≠ gb183)); clear BK183; clear HB; have BK183 := n0_; have HB := n1_; have BK184 := n2_; have GW184 := n3_; have GE184 := n4_; have NB183_184 := n5_; have NB184_183 := n6_; clear n0_ n1_ n2_ n3_ n4_ n5_ n6_; clear hb hbox hg)); (try simp only [Act.put, List.setIfInBounds_toArray, List.set_cons_zero, List.set_cons_succ]); go_cut [23] (fun v23 wc => ∃ (kq : Nat) (x23_2 : Bool), v23 = .bool x23_2 ∧ Aside0 (spec_SameMsg.j0 kq x23_2 l0_0 l0_1 l1_0 l1_1 = some r) ∧ Aside0 (kq ≤ k) ∧ Aside0 (wc.heap[gb183]? = some (.cells #[(.slice A0_0 l0_0.length c0_0), (.slice A0_1 l0_1.length c0_1)] 57 (0, 0))) ∧ Aside0 (wc.heap[gb184]? = some (.cells #[(.slice A1_0 l1_0.length c1_0), (.slice A1_1 l1_1.length c1_1)] 57 (0, 0))) ∧ Aside0 (Below w.heap.size w wc)); case first =>
  have H := HC3.out; clear HC3; by_cases c6 : (l0_0.length : Int) = (l1_0.length : Int)
  next => as_aux_lemma =>
   rw [if_pos c6] at H; have c6b0 : ((l0_0.length : Int) == (l1_0.length : Int)) = true := beq_iff_eq.mpr c6; have c6b1 : ((l0_0.length : Int) != (l1_0.length : Int)) = false := bne_eq_false_iff_eq.mpr c6; have c6b2 : (l0_0.length == l1_0.length) = true := by first | simpa using c6 | (simp at c6 ⊢; omega)
   clear c6; (first | rw [c6b0] | (simp only [i64_w, i32_w]; rw [c6b0]) | skip); replace H := Option.bind_eq_some_iff.mp H; obtain ⟨t185, A70, H⟩ := H; replace H : (spec_SameMsg.j0 k (!t185) l0_0 l0_1 l1_0 l1_1) = some r := H; have A7 := Aside0.mk A70; clear A70; have H' := Aside0.mk H; clear H; have hnb8 := NB183_184.out; have hnc8 := NB184_183.out; obtain ⟨hcz9_0, hcz9_1, hfz9_0, hfz9_1⟩ := cellsF2 BK183.out; obtain ⟨hcz10_0, hcz10_1, hfz10_0, hfz10_1⟩ := cellsF2 BK184.out; go_wp2_with (first | (go_at_call 60; (with_reducible refine (spec_l1Same.calls k _ _ l0_1 _ _ l1_1 t185 _ ?side1 ?side2 ?side3 ?side4 A7.out).mono ?_); (case side1 => have hr_ := HR0_1.out; exact z29q3); (case side2 => exact HC0_1.out); (case side3 => have hr_ := HR1_1.out; exact z29q3); (case side4 => exact HC1_1.out); rintro e w' ⟨rfl, ⟨nd, rfl⟩⟩)); go_meet
   case rel => exact ⟨_, (!t185), z29q20, H', ⟨by first | omega | exact Nat.le_refl _⟩, ⟨z29q10⟩, ⟨z29q9⟩, ⟨z29q8⟩⟩
  next => as_aux_lemma =>
   rw [if_neg c6] at H; have c6b0 : ((l0_0.length : Int) == (l1_0.length : Int)) = false := beq_eq_false_iff_ne.mpr c6; have c6b1 : ((l0_0.length : Int) != (l1_0.length : Int)) = true := bne_iff_ne.mpr c6; have c6b2 : (l0_0.length == l1_0.length) = false := by first | simpa using c6 | (simp at c6 ⊢; omega)
   (first | rw [c6b0] | (simp only [i64_w, i32_w]; rw [c6b0]) | skip); have H' := Aside0.mk H; clear H; have hnb11 := NB183_184.out; have hnc11 := NB184_183.out; obtain ⟨hcz12_0, hcz12_1, hfz12_0, hfz12_1⟩ := cellsF2 BK183.out; obtain ⟨hcz13_0, hcz13_1, hfz13_0, hfz13_1⟩ := cellsF2 BK184.out; go_wp2
   go_meet
   case rel => exact ⟨_, (true), z29q20, H', ⟨by first | omega | exact Nat.le_refl _⟩, ⟨z29q10⟩, ⟨z29q9⟩, ⟨z29q8⟩⟩
 case rest =>
  clear HC3; (try clear c1); (try clear c2); (try clear p2); (try clear c6); (try clear c6b0); (try clear c6b1); (try clear c6b2); (try clear c8); (try clear c11); (try clear hcz10_0); (try clear hcz10_1); (try clear hcz12_0); (try clear hcz12_1); (try clear hcz13_0); (try clear hcz13_1); (try clear hcz9_0); (try clear hcz9_1); (try clear hfz10_0); (try clear hfz10_1); (try clear hfz12_0); (try clear hfz12_1); (try clear hfz13_0); (try clear hfz13_1); (try clear hfz9_0); (try clear hfz9_1); obtain ⟨kq, x23_2, rfl, HA, HJ2, BK183, BK184, HB⟩ := hcut; cases kq with
  | zero => exact absurd HA.out (by simp [spec_SameMsg.j0])
  | succ kj2 =>
   have H := HA.out; clear HA; simp only [spec_SameMsg.j0] at H; by_cases c14 : x23_2 = true
   next => as_aux_lemma =>
    subst c14; have H1 : (some false) = some r := by rw [if_pos rfl] at H; exact H
    clear H; have H := H1; clear H1; obtain rfl := Option.some.inj H; go_wp2
    go_ret; exact ⟨z29q13, z29q8⟩
   next => as_aux_lemma =>
    replace c14 := Bool.eq_false_iff.mpr c14; subst c14; have H1 : (spec_SameMsg.l0 kj2 0 l0_0 l0_1 l1_0 l1_1) = some r := by rw [if_neg (show ¬ (false = true) by decide)] at H; exact H
    clear H; have H := H1; clear H1; have H' := Aside0.mk H; clear H; go_wp2
    go_loopg [5] kj2 (fun kq v5 w' => ∃ (x5_2 : Int), v5 = .int .i64 x5_2 ∧ Aside0 (spec_SameMsg.l0 kq x5_2 l0_0 l0_1 l1_0 l1_1 = some r) ∧ Aside0 (kq ≤ kj2) ∧ Aside0 (w'.heap[gb183]? = some (.cells #[(.slice A0_0 l0_0.length c0_0), (.slice A0_1 l0_1.length c0_1)] 57 (0, 0))) ∧ Aside0 (w'.heap[gb184]? = some (.cells #[(.slice A1_0 l1_0.length c1_0), (.slice A1_1 l1_1.length c1_1)] 57 (0, 0))) ∧ Aside0 (Below w.heap.size w w')); case atStart => exact ⟨(0), z29q20, H', ⟨Nat.le_refl _⟩, ⟨z29q10⟩, ⟨z29q9⟩, ⟨z29q8⟩⟩
    case round =>
     clear H'; (try clear c1); (try clear c2); (try clear p2); (try clear c6); (try clear c6b0); (try clear c6b1); (try clear c6b2); (try clear c8); (try clear c11); (try clear c14); (try clear hcz10_0); (try clear hcz10_1); (try clear hcz12_0); (try clear hcz12_1); (try clear hcz13_0); (try clear hcz13_1); (try clear hcz9_0); (try clear hcz9_1); (try clear hfz10_0); (try clear hfz10_1); (try clear hfz12_0); (try clear hfz12_1); (try clear hfz13_0); (try clear hfz13_1); (try clear hfz9_0); (try clear hfz9_1); (try clear p2); obtain ⟨x5_2, rfl, HA, HK2, BK183, BK184, HB⟩ := hrel; cases gk with
     | zero => exact absurd HA.out (by simp [spec_SameMsg.l0])
     | succ k2 =>
      have H := HA.out; clear HA; simp only [spec_SameMsg.l0] at H; by_cases c15 : x5_2 < (l0_0.length : Int)
      next => as_aux_lemma =>
       rw [if_pos c15] at H; have c15b0 : decide (x5_2 < (l0_0.length : Int)) = true := decide_eq_true c15; clear c15; by_cases c16 : 0 ≤ x5_2
       next => as_aux_lemma =>
        rw [if_pos c16] at H; have c16b0 : decide (0 ≤ x5_2) = true := decide_eq_true c16; clear c16; by_cases c17 : x5_2 < (l1_0.length : Int)
        next => as_aux_lemma =>
         rw [if_pos c17] at H; have c17b0 : decide (x5_2 < (l1_0.length : Int)) = true := decide_eq_true c17; clear c17; have HC18 := Aside0.mk H; clear H; have hnb19 := NB183_184.out; have hnc19 := NB184_183.out; obtain ⟨hcz20_0, hcz20_1, hfz20_0, hfz20_1⟩ := cellsF2 BK183.out; have p186 : 0 ≤ (x5_2 : Int) := of_decide_eq_true z29q2; have q186 : x5_2 < (l0_0.length : Int) := of_decide_eq_true z29q2; obtain ⟨ad186, A186_1, c186_1, e186, hx186_0, hx186_1, hl186_1, hi186_1⟩ := at_T89 HR0_0.out x5_2 p186 q186; cases e186; replace hx186_0 := cellB HB.out hx186_0; replace hx186_1 := cellB HB.out hx186_1; have HR186_1 := Aside0.mk hi186_1; have HC186_1 := Aside0.mk hl186_1; clear hi186_1 hl186_1; replace p186 := eq_true p186; replace q186 := eq_true q186; go_upto_region 8 with (first | ((with_reducible refine gate_dst (N := 6) rfl ?_); (try (refine gate_guard (by rfl) ?_; dsimp only)); refine box_event ?hg (N := 6) ?hd (cs := #[.int .i64 0, .slice none 0 0]) (t := 89) ?hr ?_; (case hd => rfl); (case hg => rfl); (case hr => first | (go_simp; done) | (go_simp; rfl)); intro gb187 hg w21 hbox hb; have n0_ := Aside0.mk (blk_below (g := gb183) (o := .cells #[.slice (some ad186) l0_0.length c0_0, .slice A0_1 l0_1.length c0_1] 57 (0, 0)) z29q5 hb); have n1_ := Aside0.mk (blk_below (g := gb184) (o := .cells #[.slice A1_0 l1_0.length c1_0, .slice A1_1 l1_1.length c1_1] 57 (0, 0)) z29q12 hb); have n2_ := Aside0.mk (below_step z29q15 hb); have n3_ := Aside0.mk (hbox); have n4_ := Aside0.mk ((by rw [hg]; exact (below_size z29q15) : w.heap.size ≤ gb187)); have n5_ := Aside0.mk ((by rw [hg]; exact (below_size z29q15) : w.heap.size ≤ gb187)); have n6_ := Aside0.mk ((by rw [hg]; exact Nat.ne_of_lt (blk_lt (g := gb183) (o := .cells #[.slice (some ad186) l0_0.length c0_0, .slice A0_1 l0_1.length c0_1] 57 (0, 0)) z29q5) : gb183 ≠ gb187)); have n7_ := Aside0.mk ((by rw [hg]; exact Nat.ne_of_gt (blk_lt (g := gb183) (o := .cells #[.slice (some ad186) l0_0.length c0_0, .slice A0_1 l0_1.length c0_1] 57 (0, 0)) z29q5) : gb187 ≠ gb183)); have n8_ := Aside0.mk ((by rw [hg]; exact Nat.ne_of_lt (blk_lt (g := gb184) (o := .cells #[.slice A1_0 l1_0.length c1_0, .slice A1_1 l1_1.length c1_1] 57 (0, 0)) z29q12) : gb184 ≠ gb187)); have n9_ := Aside0.mk ((by rw [hg]; exact Nat.ne_of_gt (blk_lt (g := gb184) (o := .cells #[.slice A1_0 l1_0.length c1_0, .slice A1_1 l1_1.length c1_1] 57 (0, 0)) z29q12) : gb187 ≠ gb184)); clear BK183; clear BK184; clear HB; have BK183 := n0_; have BK184 := n1_; have HB := n2_; have BK187 := n3_; have GW187 := n4_; have GE187 := n5_; have NB183_187 := n6_; have NB187_183 := n7_; have NB184_187 := n8_; have NB187_184 := n9_; clear n0_ n1_ n2_ n3_ n4_ n5_ n6_ n7_ n8_ n9_; clear hb hbox hg; have hnb22 := NB187_183.out; have hnc22 := NB183_187.out; have hnb23 := NB187_184.out; have hnc23 := NB184_187.out; obtain ⟨hcz24_0, hcz24_1, hfz24_0, hfz24_1⟩ := cellsF2 BK187.out; obtain ⟨hcz25_0, hcz25_1, hfz25_0, hfz25_1⟩ := cellsF2 BK184.out; have p188 : 0 ≤ (x5_2 : Int) := of_decide_eq_true z29q2; have q188 : x5_2 < (l1_0.length : Int) := of_decide_eq_true z29q2; obtain ⟨ad188, A188_1, c188_1, e188, hx188_0, hx188_1, hl188_1, hi188_1⟩ := at_T89 HR1_0.out x5_2 p188 q188; cases e188; have hn188_0 : ad188.block ≠ gb187 := Nat.ne_of_lt (Nat.lt_of_lt_of_le z29q30 GW187.out); have hn188_1 : ad188.block ≠ gb187 := Nat.ne_of_lt (Nat.lt_of_lt_of_le z29q30 GW187.out); replace hx188_0 := cellB HB.out hx188_0; replace hx188_1 := cellB HB.out hx188_1; have HR188_1 := Aside0.mk hi188_1; have HC188_1 := Aside0.mk hl188_1; clear hi188_1 hl188_1; replace hx188_0 := (cell_far (p := ⟨gb187, 0, none⟩) z29q25 (.int .i64 ((rd_T89 l0_0 x5_2).f0))).trans hx188_0; replace hx188_1 := (cell_far (p := ⟨gb187, 0, none⟩) z29q25 (.int .i64 ((rd_T89 l0_0 x5_2).f0))).trans hx188_1; replace hx188_0 := (cell_far (p := ⟨gb187, 1, none⟩) z29q24 (.slice A186_1 ((rd_T89 l0_0 x5_2).f1).length c186_1)).trans hx188_0; replace hx188_1 := (cell_far (p := ⟨gb187, 1, none⟩) z29q24 (.slice A186_1 ((rd_T89 l0_0 x5_2).f1).length c186_1)).trans hx188_1; clear hn188_0; clear hn188_1; replace p188 := eq_true p188; replace q188 := eq_true q188) | ((with_reducible refine gate_dst (N := 7) rfl ?_); (try (refine gate_guard (by rfl) ?_; dsimp only)); refine box_event ?hg (N := 7) ?hd (cs := #[.int .i64 0, .slice none 0 0]) (t := 89) ?hr ?_; (case hd => rfl); (case hg => rfl); (case hr => first | (go_simp; done) | (go_simp; rfl)); intro gb189 hg w26 hbox hb; have n0_ := Aside0.mk (blk_below (g := gb183) (o := .cells #[.slice (some ad186) l0_0.length c0_0, .slice A0_1 l0_1.length c0_1] 57 (0, 0)) z29q7 hb); have n1_ := Aside0.mk (blk_below (g := gb184) (o := .cells #[.slice (some ad188) l1_0.length c1_0, .slice A1_1 l1_1.length c1_1] 57 (0, 0)) z29q6 hb); have n2_ := Aside0.mk (blk_below (g := gb187) (o := .cells #[.int .i64 ((rd_T89 l0_0 x5_2).f0), .slice A186_1 ((rd_T89 l0_0 x5_2).f1).length c186_1] 89 (0, 0)) z29q4 hb); have n3_ := Aside0.mk (below_step z29q14 hb); have n4_ := Aside0.mk (hbox); have n5_ := Aside0.mk ((by rw [hg]; exact (below_size z29q14) : w.heap.size ≤ gb189)); have n6_ := Aside0.mk ((by rw [hg]; exact (below_size z29q14) : w.heap.size ≤ gb189)); have n7_ := Aside0.mk ((by rw [hg]; exact Nat.ne_of_lt (blk_lt (g := gb183) (o := .cells #[.slice (some ad186) l0_0.length c0_0, .slice A0_1 l0_1.length c0_1] 57 (0, 0)) z29q7) : gb183 ≠ gb189)); have n8_ := Aside0.mk ((by rw [hg]; exact Nat.ne_of_gt (blk_lt (g := gb183) (o := .cells #[.slice (some ad186) l0_0.length c0_0, .slice A0_1 l0_1.length c0_1] 57 (0, 0)) z29q7) : gb189 ≠ gb183)); have n9_ := Aside0.mk ((by rw [hg]; exact Nat.ne_of_lt (blk_lt (g := gb184) (o := .cells #[.slice (some ad188) l1_0.length c1_0, .slice A1_1 l1_1.length c1_1] 57 (0, 0)) z29q6) : gb184 ≠ gb189)); have n10_ := Aside0.mk ((by rw [hg]; exact Nat.ne_of_gt (blk_lt (g := gb184) (o := .cells #[.slice (some ad188) l1_0.length c1_0, .slice A1_1 l1_1.length c1_1] 57 (0, 0)) z29q6) : gb189 ≠ gb184)); have n11_ := Aside0.mk ((by rw [hg]; exact Nat.ne_of_lt (blk_lt (g := gb187) (o := .cells #[.int .i64 ((rd_T89 l0_0 x5_2).f0), .slice A186_1 ((rd_T89 l0_0 x5_2).f1).length c186_1] 89 (0, 0)) z29q4) : gb187 ≠ gb189)); have n12_ := Aside0.mk ((by rw [hg]; exact Nat.ne_of_gt (blk_lt (g := gb187) (o := .cells #[.int .i64 ((rd_T89 l0_0 x5_2).f0), .slice A186_1 ((rd_T89 l0_0 x5_2).f1).length c186_1] 89 (0, 0)) z29q4) : gb189 ≠ gb187)); clear BK183; clear BK184; clear BK187; clear HB; have BK183 := n0_; have BK184 := n1_; have BK187 := n2_; have HB := n3_; have BK189 := n4_; have GW189 := n5_; have GE189 := n6_; have NB183_189 := n7_; have NB189_183 := n8_; have NB184_189 := n9_; have NB189_184 := n10_; have NB187_189 := n11_; have NB189_187 := n12_; clear n0_ n1_ n2_ n3_ n4_ n5_ n6_ n7_ n8_ n9_ n10_ n11_ n12_; clear hb hbox hg; have hnb27 := NB189_183.out; have hnc27 := NB183_189.out; have hnb28 := NB189_184.out; have hnc28 := NB184_189.out; have hnb29 := NB189_187.out; have hnc29 := NB187_189.out; obtain ⟨hcz30_0, hcz30_1, hfz30_0, hfz30_1⟩ := cellsF2 BK189.out)); (try simp only [Act.put, List.setIfInBounds_toArray, List.set_cons_zero, List.set_cons_succ]); go_cut [54] (fun v54 wc => ∃ (kq : Nat) (x54_17 : Bool), v54 = .bool x54_17 ∧ Aside0 (spec_SameMsg.j2 kq x5_2 x54_17 l0_0 l0_1 l1_0 l1_1 ((rd_T89 l0_0 x5_2).f0) ((rd_T89 l0_0 x5_2).f1) ((rd_T89 l1_0 x5_2).f0) ((rd_T89 l1_0 x5_2).f1) = some r) ∧ Aside0 (kq ≤ k2) ∧ Aside0 (wc.heap[gb183]? = some (.cells #[(.slice (some ad186) l0_0.length c0_0), (.slice A0_1 l0_1.length c0_1)] 57 (0, 0))) ∧ Aside0 (wc.heap[gb184]? = some (.cells #[(.slice (some ad188) l1_0.length c1_0), (.slice A1_1 l1_1.length c1_1)] 57 (0, 0))) ∧ Aside0 (wc.heap[gb187]? = some (.cells #[.int .i64 ((rd_T89 l0_0 x5_2).f0), (.slice A186_1 ((rd_T89 l0_0 x5_2).f1).length c186_1)] 89 (0, 0))) ∧ Aside0 (wc.heap[gb189]? = some (.cells #[.int .i64 ((rd_T89 l1_0 x5_2).f0), (.slice A188_1 ((rd_T89 l1_0 x5_2).f1).length c188_1)] 89 (0, 0))) ∧ Aside0 (Below w.heap.size w wc)); case first =>
          have H := HC18.out; clear HC18; by_cases c31 : ((rd_T89 l0_0 x5_2).f0) = ((rd_T89 l1_0 x5_2).f0)
          next => as_aux_lemma =>
           rw [if_pos c31] at H; have c31b0 : (((rd_T89 l0_0 x5_2).f0) == ((rd_T89 l1_0 x5_2).f0)) = true := beq_iff_eq.mpr c31; have c31b1 : (((rd_T89 l0_0 x5_2).f0) != ((rd_T89 l1_0 x5_2).f0)) = false := bne_eq_false_iff_eq.mpr c31; clear c31; (first | rw [c31b0] | (simp only [i64_w, i32_w]; rw [c31b0]) | skip); have H' := Aside0.mk H; clear H; have hnb32 := NB187_183.out; have hnc32 := NB183_187.out; have hnb33 := NB187_184.out; have hnc33 := NB184_187.out; have hnb34 := NB187_189.out; have hnc34 := NB189_187.out; obtain ⟨hcz35_0, hcz35_1, hfz35_0, hfz35_1⟩ := cellsF2 BK187.out; have hnb36 := NB189_183.out; have hnc36 := NB183_189.out; have hnb37 := NB189_184.out; have hnc37 := NB184_189.out; obtain ⟨hcz38_0, hcz38_1, hfz38_0, hfz38_1⟩ := cellsF2 BK189.out; go_wp2
           go_meet
           case rel => exact ⟨_, (((((rd_T89 l0_0 x5_2).f1).length : Int) != (((rd_T89 l1_0 x5_2).f1).length : Int))), z29q20, H', ⟨by have := HJ2.out; have := HK2.out; first | omega | exact Nat.le_refl _⟩, ⟨z29q18⟩, ⟨z29q17⟩, ⟨z29q16⟩, ⟨z29q11⟩, ⟨z29q1⟩⟩
          next => as_aux_lemma =>
           rw [if_neg c31] at H; have c31b0 : (((rd_T89 l0_0 x5_2).f0) == ((rd_T89 l1_0 x5_2).f0)) = false := beq_eq_false_iff_ne.mpr c31; have c31b1 : (((rd_T89 l0_0 x5_2).f0) != ((rd_T89 l1_0 x5_2).f0)) = true := bne_iff_ne.mpr c31; (first | rw [c31b0] | (simp only [i64_w, i32_w]; rw [c31b0]) | skip); have H' := Aside0.mk H; clear H; have hnb39 := NB187_183.out; have hnc39 := NB183_187.out; have hnb40 := NB187_184.out; have hnc40 := NB184_187.out; have hnb41 := NB187_189.out; have hnc41 := NB189_187.out; obtain ⟨hcz42_0, hcz42_1, hfz42_0, hfz42_1⟩ := cellsF2 BK187.out; have hnb43 := NB189_183.out; have hnc43 := NB183_189.out; have hnb44 := NB189_184.out; have hnc44 := NB184_189.out; obtain ⟨hcz45_0, hcz45_1, hfz45_0, hfz45_1⟩ := cellsF2 BK189.out; go_wp2
           go_meet
           case rel => exact ⟨_, (true), z29q20, H', ⟨by have := HJ2.out; have := HK2.out; first | omega | exact Nat.le_refl _⟩, ⟨z29q18⟩, ⟨z29q17⟩, ⟨z29q16⟩, ⟨z29q11⟩, ⟨z29q1⟩⟩
         case rest =>
          clear HC18; (try clear c1); (try clear p1); (try clear q1); (try clear hx1); (try clear c2); (try clear p2); (try clear c3); (try clear c4); (try clear c6); (try clear c6b0); (try clear c6b1); (try clear c6b2); (try clear c8); (try clear c11); (try clear c14); (try clear c15); (try clear c15b0); (try clear c16); (try clear c16b0); (try clear c17); (try clear c17b0); (try clear c18); (try clear p18); (try clear q18); (try clear hx18); (try clear c19); (try clear c22); (try clear c23); (try clear c27); (try clear c28); (try clear c29); (try clear c31); (try clear c31b0); (try clear c31b1); (try clear c32); (try clear c33); (try clear c34); (try clear c36); (try clear c37); (try clear c39); (try clear c40); (try clear c41); (try clear c43); (try clear c44); (try clear hcz10_0); (try clear hcz10_1); (try clear hcz12_0); (try clear hcz12_1); (try clear hcz13_0); (try clear hcz13_1); (try clear hcz20_0); (try clear hcz20_1); (try clear hcz24_0); (try clear hcz24_1); (try clear hcz25_0); (try clear hcz25_1); (try clear hcz30_0); (try clear hcz30_1); (try clear hcz35_0); (try clear hcz35_1); (try clear hcz38_0); (try clear hcz38_1); (try clear hcz42_0); (try clear hcz42_1); (try clear hcz45_0); (try clear hcz45_1); (try clear hcz9_0); (try clear hcz9_1); (try clear hfz10_0); (try clear hfz10_1); (try clear hfz12_0); (try clear hfz12_1); (try clear hfz13_0); (try clear hfz13_1); (try clear hfz20_0); (try clear hfz20_1); (try clear hfz24_0); (try clear hfz24_1); (try clear hfz25_0); (try clear hfz25_1); (try clear hfz30_0); (try clear hfz30_1); (try clear hfz35_0); (try clear hfz35_1); (try clear hfz38_0); (try clear hfz38_1); (try clear hfz42_0); (try clear hfz42_1); (try clear hfz45_0); (try clear hfz45_1); (try clear hfz9_0); (try clear hfz9_1); (try clear hx186_0); (try clear hx186_1); (try clear hx188_0); (try clear hx188_1); (try clear p186); (try clear p188); (try clear p2); (try clear q186); (try clear q188); obtain ⟨kq, x54_17, rfl, HA, HJ17, BK183, BK184, BK187, BK189, HB⟩ := hcut; cases kq with
          | zero => exact absurd HA.out (by simp [spec_SameMsg.j2])
          | succ kj17 =>
           have H := HA.out; clear HA; simp only [spec_SameMsg.j2] at H; by_cases c46 : x54_17 = true
           next => as_aux_lemma =>
            subst c46; have H1 : (some false) = some r := by rw [if_pos rfl] at H; exact H
            clear H; have H := H1; clear H1; obtain rfl := Option.some.inj H; go_wp2
            go_ret; exact ⟨z29q13, z29q1⟩
           next => as_aux_lemma =>
            replace c46 := Bool.eq_false_iff.mpr c46; subst c46; have H1 : (spec_SameMsg.l1 kj17 x5_2 0 l0_0 l0_1 l1_0 l1_1 ((rd_T89 l0_0 x5_2).f0) ((rd_T89 l0_0 x5_2).f1) ((rd_T89 l1_0 x5_2).f0) ((rd_T89 l1_0 x5_2).f1)) = some r := by rw [if_neg (show ¬ (false = true) by decide)] at H; exact H
            clear H; have H := H1; clear H1; have H' := Aside0.mk H; clear H; go_wp2
            go_loopg [8] kj17 (fun kq v8 w' => ∃ (x8_4 : Int), v8 = .int .i64 x8_4 ∧ Aside0 (spec_SameMsg.l1 kq x5_2 x8_4 l0_0 l0_1 l1_0 l1_1 ((rd_T89 l0_0 x5_2).f0) ((rd_T89 l0_0 x5_2).f1) ((rd_T89 l1_0 x5_2).f0) ((rd_T89 l1_0 x5_2).f1) = some r) ∧ Aside0 (kq ≤ kj17) ∧ Aside0 (w'.heap[gb183]? = some (.cells #[(.slice (some ad186) l0_0.length c0_0), (.slice A0_1 l0_1.length c0_1)] 57 (0, 0))) ∧ Aside0 (w'.heap[gb184]? = some (.cells #[(.slice (some ad188) l1_0.length c1_0), (.slice A1_1 l1_1.length c1_1)] 57 (0, 0))) ∧ Aside0 (w'.heap[gb187]? = some (.cells #[.int .i64 ((rd_T89 l0_0 x5_2).f0), (.slice A186_1 ((rd_T89 l0_0 x5_2).f1).length c186_1)] 89 (0, 0))) ∧ Aside0 (w'.heap[gb189]? = some (.cells #[.int .i64 ((rd_T89 l1_0 x5_2).f0), (.slice A188_1 ((rd_T89 l1_0 x5_2).f1).length c188_1)] 89 (0, 0))) ∧ Aside0 (Below w.heap.size w w')); case atStart => exact ⟨(0), z29q20, H', ⟨Nat.le_refl _⟩, ⟨z29q10⟩, ⟨z29q9⟩, ⟨z29q29⟩, ⟨z29q28⟩, ⟨z29q1⟩⟩
            case round =>
             clear H'; (try clear c1); (try clear p1); (try clear q1); (try clear hx1); (try clear c2); (try clear p2); (try clear c3); (try clear c4); (try clear c6); (try clear c6b0); (try clear c6b1); (try clear c6b2); (try clear c8); (try clear c11); (try clear c14); (try clear c15); (try clear c15b0); (try clear c16); (try clear c16b0); (try clear c17); (try clear c17b0); (try clear c18); (try clear p18); (try clear q18); (try clear hx18); (try clear c19); (try clear c22); (try clear c23); (try clear c27); (try clear c28); (try clear c29); (try clear c31); (try clear c31b0); (try clear c31b1); (try clear c32); (try clear c33); (try clear c34); (try clear c36); (try clear c37); (try clear c39); (try clear c40); (try clear c41); (try clear c43); (try clear c44); (try clear c46); (try clear hcz10_0); (try clear hcz10_1); (try clear hcz12_0); (try clear hcz12_1); (try clear hcz13_0); (try clear hcz13_1); (try clear hcz20_0); (try clear hcz20_1); (try clear hcz24_0); (try clear hcz24_1); (try clear hcz25_0); (try clear hcz25_1); (try clear hcz30_0); (try clear hcz30_1); (try clear hcz35_0); (try clear hcz35_1); (try clear hcz38_0); (try clear hcz38_1); (try clear hcz42_0); (try clear hcz42_1); (try clear hcz45_0); (try clear hcz45_1); (try clear hcz9_0); (try clear hcz9_1); (try clear hfz10_0); (try clear hfz10_1); (try clear hfz12_0); (try clear hfz12_1); (try clear hfz13_0); (try clear hfz13_1); (try clear hfz20_0); (try clear hfz20_1); (try clear hfz24_0); (try clear hfz24_1); (try clear hfz25_0); (try clear hfz25_1); (try clear hfz30_0); (try clear hfz30_1); (try clear hfz35_0); (try clear hfz35_1); (try clear hfz38_0); (try clear hfz38_1); (try clear hfz42_0); (try clear hfz42_1); (try clear hfz45_0); (try clear hfz45_1); (try clear hfz9_0); (try clear hfz9_1); (try clear hx186_0); (try clear hx186_1); (try clear hx188_0); (try clear hx188_1); (try clear p1); (try clear p18); (try clear p186); (try clear p188); (try clear p2); (try clear q1); (try clear q18); (try clear q186); (try clear q188); obtain ⟨x8_4, rfl, HA, HK4, BK183, BK184, BK187, BK189, HB⟩ := hrel; cases gk with
             | zero => exact absurd HA.out (by simp [spec_SameMsg.l1])
             | succ k4 =>
              have H := HA.out; clear HA; simp only [spec_SameMsg.l1] at H; by_cases c47 : x8_4 < (((rd_T89 l0_0 x5_2).f1).length : Int)
              next => as_aux_lemma =>
               rw [if_pos c47] at H; have c47b0 : decide (x8_4 < (((rd_T89 l0_0 x5_2).f1).length : Int)) = true := decide_eq_true c47; clear c47; by_cases c48 : 0 ≤ x8_4
               next => as_aux_lemma =>
                rw [if_pos c48] at H; have c48b0 : decide (0 ≤ x8_4) = true := decide_eq_true c48; clear c48; by_cases c49 : x8_4 < (((rd_T89 l1_0 x5_2).f1).length : Int)
                next => as_aux_lemma =>
                 rw [if_pos c49] at H; have c49b0 : decide (x8_4 < (((rd_T89 l1_0 x5_2).f1).length : Int)) = true := decide_eq_true c49; clear c49; by_cases c50 : ((rd_T91 ((rd_T89 l0_0 x5_2).f1) x8_4).f0) = ((rd_T91 ((rd_T89 l1_0 x5_2).f1) x8_4).f0)
                 next => as_aux_lemma =>
                  rw [if_pos c50] at H; have c50b0 : (((rd_T91 ((rd_T89 l0_0 x5_2).f1) x8_4).f0) == ((rd_T91 ((rd_T89 l1_0 x5_2).f1) x8_4).f0)) = true := beq_iff_eq.mpr c50; have c50b1 : (((rd_T91 ((rd_T89 l0_0 x5_2).f1) x8_4).f0) != ((rd_T91 ((rd_T89 l1_0 x5_2).f1) x8_4).f0)) = false := bne_eq_false_iff_eq.mpr c50; clear c50; by_cases c51 : ((rd_T91 ((rd_T89 l0_0 x5_2).f1) x8_4).f1).toList = ((rd_T91 ((rd_T89 l1_0 x5_2).f1) x8_4).f1).toList
                  next => as_aux_lemma =>
                   rw [if_pos c51] at H; have c51b0 : (((rd_T91 ((rd_T89 l0_0 x5_2).f1) x8_4).f1).toList == ((rd_T91 ((rd_T89 l1_0 x5_2).f1) x8_4).f1).toList) = true := beq_iff_eq.mpr c51; have c51b1 : (((rd_T91 ((rd_T89 l0_0 x5_2).f1) x8_4).f1).toList != ((rd_T91 ((rd_T89 l1_0 x5_2).f1) x8_4).f1).toList) = false := bne_eq_false_iff_eq.mpr c51; clear c51; replace H := Option.bind_eq_some_iff.mp H; obtain ⟨t196, A520, H⟩ := H; replace H : (if t196 = true then (spec_SameMsg.l1 k4 x5_2 (wrap64 (x8_4 + 1)) l0_0 l0_1 l1_0 l1_1 ((rd_T89 l0_0 x5_2).f0) ((rd_T89 l0_0 x5_2).f1) ((rd_T89 l1_0 x5_2).f0) ((rd_T89 l1_0 x5_2).f1)) else (some false)) = some r := H; have A52 := Aside0.mk A520; clear A520; by_cases c53 : t196 = true
                   next => as_aux_lemma =>
                    subst c53; have H1 : (spec_SameMsg.l1 k4 x5_2 (wrap64 (x8_4 + 1)) l0_0 l0_1 l1_0 l1_1 ((rd_T89 l0_0 x5_2).f0) ((rd_T89 l0_0 x5_2).f1) ((rd_T89 l1_0 x5_2).f0) ((rd_T89 l1_0 x5_2).f1)) = some r := by rw [if_pos rfl] at H; exact H
                    clear H; have H := H1; clear H1; have H' := Aside0.mk H; clear H; have hnb54 := NB187_183.out; have hnc54 := NB183_187.out; have hnb55 := NB187_184.out; have hnc55 := NB184_187.out; have hnb56 := NB187_189.out; have hnc56 := NB189_187.out; obtain ⟨hcz57_0, hcz57_1, hfz57_0, hfz57_1⟩ := cellsF2 BK187.out; (try go_wp2); have n0_ := Aside0.mk (blk_drew BK183.out); have n1_ := Aside0.mk (blk_drew BK184.out); have n2_ := Aside0.mk (blk_drew BK187.out); have n3_ := Aside0.mk (blk_drew BK189.out); have n4_ := Aside0.mk (below_drew1 HB.out); clear BK183; clear BK184; clear BK187; clear BK189; clear HB; have BK183 := n0_; have BK184 := n1_; have BK187 := n2_; have BK189 := n3_; have HB := n4_; clear n0_ n1_ n2_ n3_ n4_; have p190 : 0 ≤ (x8_4 : Int) := of_decide_eq_true z29q2; have q190 : x8_4 < (((rd_T89 l0_0 x5_2).f1).length : Int) := of_decide_eq_true z29q2; obtain ⟨ad190, A190_2, c190_2, A190_3, c190_3, e190, hx190_0, hx190_1, hx190_2, hx190_3, hl190_2, hi190_2, hl190_3, hi190_3⟩ := at_T91 HR186_1.out x8_4 p190 q190; have hw190_3 := hx190_3; have hw190_2 := hx190_2; have hw190_1 := hx190_1; have hw190_0 := hx190_0; cases e190; replace hx190_0 := cellB HB.out hx190_0; replace hx190_1 := cellB HB.out hx190_1; replace hx190_2 := cellB HB.out hx190_2; replace hx190_3 := cellB HB.out hx190_3; have HR190_2 := Aside0.mk hi190_2; have HC190_2 := Aside0.mk hl190_2; clear hi190_2 hl190_2; have HR190_3 := Aside0.mk hi190_3; have HC190_3 := Aside0.mk hl190_3; clear hi190_3 hl190_3; replace p190 := eq_true p190; replace q190 := eq_true q190; have p191 : 0 ≤ (x8_4 : Int) := of_decide_eq_true z29q2; have q191 : x8_4 < (((rd_T89 l1_0 x5_2).f1).length : Int) := of_decide_eq_true z29q2; obtain ⟨ad191, A191_2, c191_2, A191_3, c191_3, e191, hx191_0, hx191_1, hx191_2, hx191_3, hl191_2, hi191_2, hl191_3, hi191_3⟩ := at_T91 HR188_1.out x8_4 p191 q191; have hw191_3 := hx191_3; have hw191_2 := hx191_2; have hw191_1 := hx191_1; have hw191_0 := hx191_0; cases e191; replace hx191_0 := cellB HB.out hx191_0; replace hx191_1 := cellB HB.out hx191_1; replace hx191_2 := cellB HB.out hx191_2; replace hx191_3 := cellB HB.out hx191_3; have HR191_2 := Aside0.mk hi191_2; have HC191_2 := Aside0.mk hl191_2; clear hi191_2 hl191_2; have HR191_3 := Aside0.mk hi191_3; have HC191_3 := Aside0.mk hl191_3; clear hi191_3 hl191_3; replace p191 := eq_true p191; replace q191 := eq_true q191; have p192 : 0 ≤ (x8_4 : Int) := of_decide_eq_true z29q2; have q192 : x8_4 < (((rd_T89 l0_0 x5_2).f1).length : Int) := of_decide_eq_true z29q2; obtain ⟨ad192, A192_2, c192_2, A192_3, c192_3, e192, hx192_0, hx192_1, hx192_2, hx192_3, hl192_2, hi192_2, hl192_3, hi192_3⟩ := at_T91 HR186_1.out x8_4 p192 q192; have hw192_3 := hx192_3; have hw192_2 := hx192_2; have hw192_1 := hx192_1; have hw192_0 := hx192_0; obtain rfl : ad190 = ad192 := (by injection e192); replace hx192_0 := cellB HB.out hx192_0; replace hx192_1 := cellB HB.out hx192_1; replace hx192_2 := cellB HB.out hx192_2; replace hx192_3 := cellB HB.out hx192_3; have HR192_2 := Aside0.mk hi192_2; have HC192_2 := Aside0.mk hl192_2; clear hi192_2 hl192_2; have HR192_3 := Aside0.mk hi192_3; have HC192_3 := Aside0.mk hl192_3; clear hi192_3 hl192_3; replace p192 := eq_true p192; replace q192 := eq_true q192; have ea_ := Option.some.inj (hx190_2.symm.trans hx192_2); injection ea_ with ea_ en_ ec_; subst ea_; subst ec_; clear en_; have ea_ := Option.some.inj (hx190_3.symm.trans hx192_3); injection ea_ with ea_ en_ ec_; subst ea_; subst ec_; clear en_; have p193 : 0 ≤ (x8_4 : Int) := of_decide_eq_true z29q2; have q193 : x8_4 < (((rd_T89 l1_0 x5_2).f1).length : Int) := of_decide_eq_true z29q2; obtain ⟨ad193, A193_2, c193_2, A193_3, c193_3, e193, hx193_0, hx193_1, hx193_2, hx193_3, hl193_2, hi193_2, hl193_3, hi193_3⟩ := at_T91 HR188_1.out x8_4 p193 q193; have hw193_3 := hx193_3; have hw193_2 := hx193_2; have hw193_1 := hx193_1; have hw193_0 := hx193_0; obtain rfl : ad191 = ad193 := (by injection e193); replace hx193_0 := cellB HB.out hx193_0; replace hx193_1 := cellB HB.out hx193_1; replace hx193_2 := cellB HB.out hx193_2; replace hx193_3 := cellB HB.out hx193_3; have HR193_2 := Aside0.mk hi193_2; have HC193_2 := Aside0.mk hl193_2; clear hi193_2 hl193_2; have HR193_3 := Aside0.mk hi193_3; have HC193_3 := Aside0.mk hl193_3; clear hi193_3 hl193_3; replace p193 := eq_true p193; replace q193 := eq_true q193; have ea_ := Option.some.inj (hx191_2.symm.trans hx193_2); injection ea_ with ea_ en_ ec_; subst ea_; subst ec_; clear en_; have ea_ := Option.some.inj (hx191_3.symm.trans hx193_3); injection ea_ with ea_ en_ ec_; subst ea_; subst ec_; clear en_; have p194 : 0 ≤ (x8_4 : Int) := of_decide_eq_true z29q2; have q194 : x8_4 < (((rd_T89 l0_0 x5_2).f1).length : Int) := of_decide_eq_true z29q2; obtain ⟨ad194, A194_2, c194_2, A194_3, c194_3, e194, hx194_0, hx194_1, hx194_2, hx194_3, hl194_2, hi194_2, hl194_3, hi194_3⟩ := at_T91 HR186_1.out x8_4 p194 q194; have hw194_3 := hx194_3; have hw194_2 := hx194_2; have hw194_1 := hx194_1; have hw194_0 := hx194_0; obtain rfl : ad190 = ad194 := (by injection e194); replace hx194_0 := cellB HB.out hx194_0; replace hx194_1 := cellB HB.out hx194_1; replace hx194_2 := cellB HB.out hx194_2; replace hx194_3 := cellB HB.out hx194_3; have HR194_2 := Aside0.mk hi194_2; have HC194_2 := Aside0.mk hl194_2; clear hi194_2 hl194_2; have HR194_3 := Aside0.mk hi194_3; have HC194_3 := Aside0.mk hl194_3; clear hi194_3 hl194_3; replace p194 := eq_true p194; replace q194 := eq_true q194; have ea_ := Option.some.inj (hx190_2.symm.trans hx194_2); injection ea_ with ea_ en_ ec_; subst ea_; subst ec_; clear en_; have ea_ := Option.some.inj (hx190_3.symm.trans hx194_3); injection ea_ with ea_ en_ ec_; subst ea_; subst ec_; clear en_; have p195 : 0 ≤ (x8_4 : Int) := of_decide_eq_true z29q2; have q195 : x8_4 < (((rd_T89 l1_0 x5_2).f1).length : Int) := of_decide_eq_true z29q2; obtain ⟨ad195, A195_2, c195_2, A195_3, c195_3, e195, hx195_0, hx195_1, hx195_2, hx195_3, hl195_2, hi195_2, hl195_3, hi195_3⟩ := at_T91 HR188_1.out x8_4 p195 q195; have hw195_3 := hx195_3; have hw195_2 := hx195_2; have hw195_1 := hx195_1; have hw195_0 := hx195_0; obtain rfl : ad191 = ad195 := (by injection e195); replace hx195_0 := cellB HB.out hx195_0; replace hx195_1 := cellB HB.out hx195_1; replace hx195_2 := cellB HB.out hx195_2; replace hx195_3 := cellB HB.out hx195_3; have HR195_2 := Aside0.mk hi195_2; have HC195_2 := Aside0.mk hl195_2; clear hi195_2 hl195_2; have HR195_3 := Aside0.mk hi195_3; have HC195_3 := Aside0.mk hl195_3; clear hi195_3 hl195_3; replace p195 := eq_true p195; replace q195 := eq_true q195; have ea_ := Option.some.inj (hx191_2.symm.trans hx195_2); injection ea_ with ea_ en_ ec_; subst ea_; subst ec_; clear en_; have ea_ := Option.some.inj (hx191_3.symm.trans hx195_3); injection ea_ with ea_ en_ ec_; subst ea_; subst ec_; clear en_; refine start_ (n := 44) (S := fun w' => w'.cell? ⟨gb187, 0, none⟩ = some (.int .i64 ((rd_T89 l0_0 x5_2).f0)) ∧ w'.cell? ⟨gb187, 1, none⟩ = some (.slice (some ad190) ((rd_T89 l0_0 x5_2).f1).length c186_1) ∧ w'.cell? ⟨gb189, 0, none⟩ = some (.int .i64 ((rd_T89 l1_0 x5_2).f0)) ∧ w'.cell? ⟨gb189, 1, none⟩ = some (.slice (some ad191) ((rd_T89 l1_0 x5_2).f1).length c188_1) ∧ w'.cell? (ad190.add ((x8_4).toNat * 4)) = some (.int .i64 ((rd_T91 ((rd_T89 l0_0 x5_2).f1) x8_4).f0)) ∧ w'.cell? ⟨(ad190.add ((x8_4).toNat * 4)).block, (ad190.add ((x8_4).toNat * 4)).off + 1, none⟩ = some (.string ((rd_T91 ((rd_T89 l0_0 x5_2).f1) x8_4).f1)) ∧ w'.cell? ⟨(ad190.add ((x8_4).toNat * 4)).block, (ad190.add ((x8_4).toNat * 4)).off + 2, none⟩ = some (.slice A190_2 ((rd_T91 ((rd_T89 l0_0 x5_2).f1) x8_4).f2.f0).length c190_2) ∧ w'.cell? ⟨(ad190.add ((x8_4).toNat * 4)).block, (ad190.add ((x8_4).toNat * 4)).off + 3, none⟩ = some (.slice A190_3 ((rd_T91 ((rd_T89 l0_0 x5_2).f1) x8_4).f2.f1).length c190_3) ∧ w'.cell? (ad191.add ((x8_4).toNat * 4)) = some (.int .i64 ((rd_T91 ((rd_T89 l1_0 x5_2).f1) x8_4).f0)) ∧ w'.cell? ⟨(ad191.add ((x8_4).toNat * 4)).block, (ad191.add ((x8_4).toNat * 4)).off + 1, none⟩ = some (.string ((rd_T91 ((rd_T89 l1_0 x5_2).f1) x8_4).f1)) ∧ w'.cell? ⟨(ad191.add ((x8_4).toNat * 4)).block, (ad191.add ((x8_4).toNat * 4)).off + 2, none⟩ = some (.slice A191_2 ((rd_T91 ((rd_T89 l1_0 x5_2).f1) x8_4).f2.f0).length c191_2) ∧ w'.cell? ⟨(ad191.add ((x8_4).toNat * 4)).block, (ad191.add ((x8_4).toNat * 4)).off + 3, none⟩ = some (.slice A191_3 ((rd_T91 ((rd_T89 l1_0 x5_2).f1) x8_4).f2.f1).length c191_3) ∧ w'.cell? (ad190.add ((x8_4).toNat * 4)) = some (.int .i64 ((rd_T91 ((rd_T89 l0_0 x5_2).f1) x8_4).f0)) ∧ w'.cell? ⟨(ad190.add ((x8_4).toNat * 4)).block, (ad190.add ((x8_4).toNat * 4)).off + 1, none⟩ = some (.string ((rd_T91 ((rd_T89 l0_0 x5_2).f1) x8_4).f1)) ∧ w'.cell? ⟨(ad190.add ((x8_4).toNat * 4)).block, (ad190.add ((x8_4).toNat * 4)).off + 2, none⟩ = some (.slice A190_2 ((rd_T91 ((rd_T89 l0_0 x5_2).f1) x8_4).f2.f0).length c190_2) ∧ w'.cell? ⟨(ad190.add ((x8_4).toNat * 4)).block, (ad190.add ((x8_4).toNat * 4)).off + 3, none⟩ = some (.slice A190_3 ((rd_T91 ((rd_T89 l0_0 x5_2).f1) x8_4).f2.f1).length c190_3) ∧ w'.cell? (ad191.add ((x8_4).toNat * 4)) = some (.int .i64 ((rd_T91 ((rd_T89 l1_0 x5_2).f1) x8_4).f0)) ∧ w'.cell? ⟨(ad191.add ((x8_4).toNat * 4)).block, (ad191.add ((x8_4).toNat * 4)).off + 1, none⟩ = some (.string ((rd_T91 ((rd_T89 l1_0 x5_2).f1) x8_4).f1)) ∧ w'.cell? ⟨(ad191.add ((x8_4).toNat * 4)).block, (ad191.add ((x8_4).toNat * 4)).off + 2, none⟩ = some (.slice A191_2 ((rd_T91 ((rd_T89 l1_0 x5_2).f1) x8_4).f2.f0).length c191_2) ∧ w'.cell? ⟨(ad191.add ((x8_4).toNat * 4)).block, (ad191.add ((x8_4).toNat * 4)).off + 3, none⟩ = some (.slice A191_3 ((rd_T91 ((rd_T89 l1_0 x5_2).f1) x8_4).f2.f1).length c191_3) ∧ w'.cell? (ad190.add ((x8_4).toNat * 4)) = some (.int .i64 ((rd_T91 ((rd_T89 l0_0 x5_2).f1) x8_4).f0)) ∧ w'.cell? ⟨(ad190.add ((x8_4).toNat * 4)).block, (ad190.add ((x8_4).toNat * 4)).off + 1, none⟩ = some (.string ((rd_T91 ((rd_T89 l0_0 x5_2).f1) x8_4).f1)) ∧ w'.cell? ⟨(ad190.add ((x8_4).toNat * 4)).block, (ad190.add ((x8_4).toNat * 4)).off + 2, none⟩ = some (.slice A190_2 ((rd_T91 ((rd_T89 l0_0 x5_2).f1) x8_4).f2.f0).length c190_2) ∧ w'.cell? ⟨(ad190.add ((x8_4).toNat * 4)).block, (ad190.add ((x8_4).toNat * 4)).off + 3, none⟩ = some (.slice A190_3 ((rd_T91 ((rd_T89 l0_0 x5_2).f1) x8_4).f2.f1).length c190_3) ∧ w'.cell? (ad191.add ((x8_4).toNat * 4)) = some (.int .i64 ((rd_T91 ((rd_T89 l1_0 x5_2).f1) x8_4).f0)) ∧ w'.cell? ⟨(ad191.add ((x8_4).toNat * 4)).block, (ad191.add ((x8_4).toNat * 4)).off + 1, none⟩ = some (.string ((rd_T91 ((rd_T89 l1_0 x5_2).f1) x8_4).f1)) ∧ w'.cell? ⟨(ad191.add ((x8_4).toNat * 4)).block, (ad191.add ((x8_4).toNat * 4)).off + 2, none⟩ = some (.slice A191_2 ((rd_T91 ((rd_T89 l1_0 x5_2).f1) x8_4).f2.f0).length c191_2) ∧ w'.cell? ⟨(ad191.add ((x8_4).toNat * 4)).block, (ad191.add ((x8_4).toNat * 4)).off + 3, none⟩ = some (.slice A191_3 ((rd_T91 ((rd_T89 l1_0 x5_2).f1) x8_4).f2.f1).length c191_3)) (ds := []) #[false, false, false, false, false, false, false, false, false, false, false, false, false, false, false, false, false, false, false, false, false, false, false, false, false, false, false, false, false, false, false, false, false, false, false, false, false, false, false, false, false, false, false, false] (by kernel_rfl) rfl rfl ⟨(blk_cell BK187.out 0).trans rfl, (blk_cell BK187.out 1).trans rfl, (blk_cell BK189.out 0).trans rfl, (blk_cell BK189.out 1).trans rfl, (cellB HB.out hw190_0), (cellB HB.out hw190_1), (cellB HB.out hw190_2), (cellB HB.out hw190_3), (cellB HB.out hw191_0), (cellB HB.out hw191_1), (cellB HB.out hw191_2), (cellB HB.out hw191_3), (cellB HB.out hw192_0), (cellB HB.out hw192_1), (cellB HB.out hw192_2), (cellB HB.out hw192_3), (cellB HB.out hw193_0), (cellB HB.out hw193_1), (cellB HB.out hw193_2), (cellB HB.out hw193_3), (cellB HB.out hw194_0), (cellB HB.out hw194_1), (cellB HB.out hw194_2), (cellB HB.out hw194_3), (cellB HB.out hw195_0), (cellB HB.out hw195_1), (cellB HB.out hw195_2), (cellB HB.out hw195_3)⟩ (fun hHeld => ?_); refine with_tabW spec_SameMsg.tab13 spec_SameMsg.bits13 (fun HT_ HW_ => ?_); generalize wr.drew = w58 at BK183 BK184 BK187 BK189 HB HR190_2 HR190_3 HR191_2 HR191_3 HR192_2 HR192_3 HR193_2 HR193_3 HR194_2 HR194_3 HR195_2 HR195_3 hx190_0 hx190_1 hx190_2 hx190_3 hx191_0 hx191_1 hx191_2 hx191_3 hx192_0 hx192_1 hx192_2 hx192_3 hx193_0 hx193_1 hx193_2 hx193_3 hx194_0 hx194_1 hx194_2 hx194_3 hx195_0 hx195_1 hx195_2 hx195_3 hHeld ⊢; refine pure_ (i := 0) (N := some 62) (v := ?_) (a' := ?_) #[true, false, false, false, false, false, false, false, false, false, false, false, false, false, false, false, false, false, false, false, false, false, false, false, false, false, false, false, false, false, false, false, false, false, false, false, false, false, false, false, false, false, false, false] rfl rfl (any_of HT_.out (by kernel_rfl)) (fun _ _ _ h => h) (Or.inl ⟨by rfl, ?_⟩) ?_ ?_; rotate_left
                    next =>
                     intro w'; go_simp; (with_reducible rfl)
                    rotate_left
                    next =>
                     simp only [Act.put, List.setIfInBounds_toArray, List.set_cons_zero, List.set_cons_succ, i64_w, i32_w]; rfl
                    refine pure_ (i := 2) (N := some 64) (v := ?_) (a' := ?_) #[true, false, true, false, false, false, false, false, false, false, false, false, false, false, false, false, false, false, false, false, false, false, false, false, false, false, false, false, false, false, false, false, false, false, false, false, false, false, false, false, false, false, false, false] rfl rfl (any_of HT_.out (by kernel_rfl)) (fun _ _ _ h => h) (Or.inl ⟨by rfl, ?_⟩) ?_ ?_; rotate_left
                    next =>
                     intro w'; go_simp; (with_reducible rfl)
                    rotate_left
                    next =>
                     simp only [Act.put, List.setIfInBounds_toArray, List.set_cons_zero, List.set_cons_succ, i64_w, i32_w]; rfl
                    refine pure_ (i := 6) (N := some 68) (v := ?_) (a' := ?_) #[true, false, true, false, false, false, true, false, false, false, false, false, false, false, false, false, false, false, false, false, false, false, false, false, false, false, false, false, false, false, false, false, false, false, false, false, false, false, false, false, false, false, false, false] rfl rfl (any_of HT_.out (by kernel_rfl)) (fun _ _ _ h => h) (Or.inl ⟨by rfl, ?_⟩) ?_ ?_; rotate_left
                    next =>
                     intro w'; go_simp; (with_reducible rfl)
                    rotate_left
                    next =>
                     simp only [Act.put, List.setIfInBounds_toArray, List.set_cons_zero, List.set_cons_succ, i64_w, i32_w]; rfl
                    refine pure_ (i := 8) (N := some 70) (v := ?_) (a' := ?_) #[true, false, true, false, false, false, true, false, true, false, false, false, false, false, false, false, false, false, false, false, false, false, false, false, false, false, false, false, false, false, false, false, false, false, false, false, false, false, false, false, false, false, false, false] rfl rfl (any_of HT_.out (by kernel_rfl)) (fun _ _ _ h => h) (Or.inl ⟨by rfl, ?_⟩) ?_ ?_; rotate_left
                    next =>
                     intro w'; go_simp; (with_reducible rfl)
                    rotate_left
                    next =>
                     simp only [Act.put, List.setIfInBounds_toArray, List.set_cons_zero, List.set_cons_succ, i64_w, i32_w]; rfl
                    refine take_ (i := 1) (N := some 63) (v := ?_) (a' := ?_) #[true, true, true, false, false, false, true, false, true, false, false, false, false, false, false, false, false, false, false, false, false, false, false, false, false, false, false, false, false, false, false, false, false, false, false, false, false, false, false, false, false, false, false, false] rfl rfl (take_ofW HT_.out HW_.out (by kernel_rfl)) (fun _ _ _ h => h) (Or.inl ⟨by rfl, ?_⟩) hHeld ?_ ?_; rotate_left
                    next =>
                     rintro w' ⟨s0, s1, s2, s3, s4, s5, s6, s7, s8, s9, s10, s11, s12, s13, s14, s15, s16, s17, s18, s19, s20, s21, s22, s23, s24, s25, s26, s27⟩; go_simp; (with_reducible rfl)
                    rotate_left
                    next =>
                     simp only [Act.put, List.setIfInBounds_toArray, List.set_cons_zero, List.set_cons_succ, i64_w, i32_w]; rfl
                    refine pure_ (i := 3) (N := some 65) (v := ?_) (a' := ?_) #[true, true, true, true, false, false, true, false, true, false, false, false, false, false, false, false, false, false, false, false, false, false, false, false, false, false, false, false, false, false, false, false, false, false, false, false, false, false, false, false, false, false, false, false] rfl rfl (any_of HT_.out (by kernel_rfl)) (fun _ _ _ h => h) (Or.inl ⟨by rfl, ?_⟩) ?_ ?_; rotate_left
                    next =>
                     intro w'; go_simp; (with_reducible rfl)
                    rotate_left
                    next =>
                     simp only [Act.put, List.setIfInBounds_toArray, List.set_cons_zero, List.set_cons_succ, i64_w, i32_w]; rfl
                    refine pure_ (i := 4) (N := some 66) (v := ?_) (a' := ?_) #[true, true, true, true, true, false, true, false, true, false, false, false, false, false, false, false, false, false, false, false, false, false, false, false, false, false, false, false, false, false, false, false, false, false, false, false, false, false, false, false, false, false, false, false] rfl rfl (any_of HT_.out (by kernel_rfl)) (fun _ _ _ h => h) (Or.inl ⟨by rfl, ?_⟩) ?_ ?_; rotate_left
                    next =>
                     intro w'; go_simp; (with_reducible rfl)
                    rotate_left
                    next =>
                     simp only [Act.put, List.setIfInBounds_toArray, List.set_cons_zero, List.set_cons_succ, i64_w, i32_w]; rfl
                    refine take_ (i := 5) (N := some 67) (v := ?_) (a' := ?_) #[true, true, true, true, true, true, true, false, true, false, false, false, false, false, false, false, false, false, false, false, false, false, false, false, false, false, false, false, false, false, false, false, false, false, false, false, false, false, false, false, false, false, false, false] rfl rfl (take_ofW HT_.out HW_.out (by kernel_rfl)) (fun _ _ _ h => h) (Or.inl ⟨by rfl, ?_⟩) hHeld ?_ ?_; rotate_left
                    next =>
                     rintro w' ⟨s0, s1, s2, s3, s4, s5, s6, s7, s8, s9, s10, s11, s12, s13, s14, s15, s16, s17, s18, s19, s20, s21, s22, s23, s24, s25, s26, s27⟩; go_simp; (with_reducible rfl)
                    rotate_left
                    next =>
                     simp only [Act.put, List.setIfInBounds_toArray, List.set_cons_zero, List.set_cons_succ, i64_w, i32_w]; rfl
                    refine take_ (i := 7) (N := some 69) (v := ?_) (a' := ?_) #[true, true, true, true, true, true, true, true, true, false, false, false, false, false, false, false, false, false, false, false, false, false, false, false, false, false, false, false, false, false, false, false, false, false, false, false, false, false, false, false, false, false, false, false] rfl rfl (take_ofW HT_.out HW_.out (by kernel_rfl)) (fun _ _ _ h => h) (Or.inl ⟨by rfl, ?_⟩) hHeld ?_ ?_; rotate_left
                    next =>
                     rintro w' ⟨s0, s1, s2, s3, s4, s5, s6, s7, s8, s9, s10, s11, s12, s13, s14, s15, s16, s17, s18, s19, s20, s21, s22, s23, s24, s25, s26, s27⟩; go_simp; (with_reducible rfl)
                    rotate_left
                    next =>
                     simp only [Act.put, List.setIfInBounds_toArray, List.set_cons_zero, List.set_cons_succ, i64_w, i32_w]; rfl
                    refine pure_ (i := 9) (N := some 71) (v := ?_) (a' := ?_) #[true, true, true, true, true, true, true, true, true, true, false, false, false, false, false, false, false, false, false, false, false, false, false, false, false, false, false, false, false, false, false, false, false, false, false, false, false, false, false, false, false, false, false, false] rfl rfl (any_of HT_.out (by kernel_rfl)) (fun _ _ _ h => h) (Or.inl ⟨by rfl, ?_⟩) ?_ ?_; rotate_left
                    next =>
                     intro w'; go_simp; (with_reducible rfl)
                    rotate_left
                    next =>
                     simp only [Act.put, List.setIfInBounds_toArray, List.set_cons_zero, List.set_cons_succ, i64_w, i32_w]; rfl
                    refine pure_ (i := 10) (N := some 72) (v := ?_) (a' := ?_) #[true, true, true, true, true, true, true, true, true, true, true, false, false, false, false, false, false, false, false, false, false, false, false, false, false, false, false, false, false, false, false, false, false, false, false, false, false, false, false, false, false, false, false, false] rfl rfl (any_of HT_.out (by kernel_rfl)) (fun _ _ _ h => h) (Or.inl ⟨by rfl, ?_⟩) ?_ ?_; rotate_left
                    next =>
                     intro w'; go_simp; (with_reducible rfl)
                    rotate_left
                    next =>
                     simp only [Act.put, List.setIfInBounds_toArray, List.set_cons_zero, List.set_cons_succ, i64_w, i32_w]; rfl
                    refine take_ (i := 11) (N := some 73) (v := ?_) (a' := ?_) #[true, true, true, true, true, true, true, true, true, true, true, true, false, false, false, false, false, false, false, false, false, false, false, false, false, false, false, false, false, false, false, false, false, false, false, false, false, false, false, false, false, false, false, false] rfl rfl (take_ofW HT_.out HW_.out (by kernel_rfl)) (fun _ _ _ h => h) (Or.inl ⟨by rfl, ?_⟩) hHeld ?_ ?_; rotate_left
                    next =>
                     rintro w' ⟨s0, s1, s2, s3, s4, s5, s6, s7, s8, s9, s10, s11, s12, s13, s14, s15, s16, s17, s18, s19, s20, s21, s22, s23, s24, s25, s26, s27⟩; go_simp; (with_reducible rfl)
                    rotate_left
                    next =>
                     simp only [Act.put, List.setIfInBounds_toArray, List.set_cons_zero, List.set_cons_succ, i64_w, i32_w]; rfl
                    refine pure_ (i := 12) (N := some 74) (v := ?_) (a' := ?_) #[true, true, true, true, true, true, true, true, true, true, true, true, true, false, false, false, false, false, false, false, false, false, false, false, false, false, false, false, false, false, false, false, false, false, false, false, false, false, false, false, false, false, false, false] rfl rfl (any_of HT_.out (by kernel_rfl)) (fun _ _ _ h => h) (Or.inl ⟨by rfl, ?_⟩) ?_ ?_; rotate_left
                    next =>
                     intro w'; go_simp; (with_reducible rfl)
                    rotate_left
                    next =>
                     simp only [Act.put, List.setIfInBounds_toArray, List.set_cons_zero, List.set_cons_succ, i64_w, i32_w]; rfl
                    refine pure_ (i := 13) (N := some 75) (v := ?_) (a' := ?_) #[true, true, true, true, true, true, true, true, true, true, true, true, true, true, false, false, false, false, false, false, false, false, false, false, false, false, false, false, false, false, false, false, false, false, false, false, false, false, false, false, false, false, false, false] rfl rfl (any_of HT_.out (by kernel_rfl)) (fun _ _ _ h => h) (Or.inl ⟨by rfl, ?_⟩) ?_ ?_; rotate_left
                    next =>
                     intro w'; go_simp; (with_reducible rfl)
                    rotate_left
                    next =>
                     simp only [Act.put, List.setIfInBounds_toArray, List.set_cons_zero, List.set_cons_succ, i64_w, i32_w]; rfl
                    refine pure_ (i := 14) (N := some 76) (v := ?_) (a' := ?_) #[true, true, true, true, true, true, true, true, true, true, true, true, true, true, true, false, false, false, false, false, false, false, false, false, false, false, false, false, false, false, false, false, false, false, false, false, false, false, false, false, false, false, false, false] rfl rfl (any_of HT_.out (by kernel_rfl)) (fun _ _ _ h => h) (Or.inl ⟨by rfl, ?_⟩) ?_ ?_; rotate_left
                    next =>
                     intro w'; go_simp; (with_reducible rfl)
                    rotate_left
                    next =>
                     simp only [Act.put, List.setIfInBounds_toArray, List.set_cons_zero, List.set_cons_succ, i64_w, i32_w]; rfl
                    refine pure_ (i := 16) (N := some 78) (v := ?_) (a' := ?_) #[true, true, true, true, true, true, true, true, true, true, true, true, true, true, true, false, true, false, false, false, false, false, false, false, false, false, false, false, false, false, false, false, false, false, false, false, false, false, false, false, false, false, false, false] rfl rfl (any_of HT_.out (by kernel_rfl)) (fun _ _ _ h => h) (Or.inl ⟨by rfl, ?_⟩) ?_ ?_; rotate_left
                    next =>
                     intro w'; go_simp; (with_reducible rfl)
                    rotate_left
                    next =>
                     simp only [Act.put, List.setIfInBounds_toArray, List.set_cons_zero, List.set_cons_succ, i64_w, i32_w]; rfl
                    refine pure_ (i := 20) (N := some 82) (v := ?_) (a' := ?_) #[true, true, true, true, true, true, true, true, true, true, true, true, true, true, true, false, true, false, false, false, true, false, false, false, false, false, false, false, false, false, false, false, false, false, false, false, false, false, false, false, false, false, false, false] rfl rfl (any_of HT_.out (by kernel_rfl)) (fun _ _ _ h => h) (Or.inl ⟨by rfl, ?_⟩) ?_ ?_; rotate_left
                    next =>
                     intro w'; go_simp; (with_reducible rfl)
                    rotate_left
                    next =>
                     simp only [Act.put, List.setIfInBounds_toArray, List.set_cons_zero, List.set_cons_succ, i64_w, i32_w]; rfl
                    refine pure_ (i := 22) (N := some 84) (v := ?_) (a' := ?_) #[true, true, true, true, true, true, true, true, true, true, true, true, true, true, true, false, true, false, false, false, true, false, true, false, false, false, false, false, false, false, false, false, false, false, false, false, false, false, false, false, false, false, false, false] rfl rfl (any_of HT_.out (by kernel_rfl)) (fun _ _ _ h => h) (Or.inl ⟨by rfl, ?_⟩) ?_ ?_; rotate_left
                    next =>
                     intro w'; go_simp; (with_reducible rfl)
                    rotate_left
                    next =>
                     simp only [Act.put, List.setIfInBounds_toArray, List.set_cons_zero, List.set_cons_succ, i64_w, i32_w]; rfl
                    refine take_ (i := 15) (N := some 77) (v := ?_) (a' := ?_) #[true, true, true, true, true, true, true, true, true, true, true, true, true, true, true, true, true, false, false, false, true, false, true, false, false, false, false, false, false, false, false, false, false, false, false, false, false, false, false, false, false, false, false, false] rfl rfl (take_ofW HT_.out HW_.out (by kernel_rfl)) (fun _ _ _ h => h) (Or.inl ⟨by rfl, ?_⟩) hHeld ?_ ?_; rotate_left
                    next =>
                     rintro w' ⟨s0, s1, s2, s3, s4, s5, s6, s7, s8, s9, s10, s11, s12, s13, s14, s15, s16, s17, s18, s19, s20, s21, s22, s23, s24, s25, s26, s27⟩; go_simp; (with_reducible rfl)
                    rotate_left
                    next =>
                     simp only [Act.put, List.setIfInBounds_toArray, List.set_cons_zero, List.set_cons_succ, i64_w, i32_w]; rfl
                    refine pure_ (i := 17) (N := some 79) (v := ?_) (a' := ?_) #[true, true, true, true, true, true, true, true, true, true, true, true, true, true, true, true, true, true, false, false, true, false, true, false, false, false, false, false, false, false, false, false, false, false, false, false, false, false, false, false, false, false, false, false] rfl rfl (any_of HT_.out (by kernel_rfl)) (fun _ _ _ h => h) (Or.inl ⟨by rfl, ?_⟩) ?_ ?_; rotate_left
                    next =>
                     intro w'; go_simp; (with_reducible rfl)
                    rotate_left
                    next =>
                     simp only [Act.put, List.setIfInBounds_toArray, List.set_cons_zero, List.set_cons_succ, i64_w, i32_w]; rfl
                    refine pure_ (i := 18) (N := some 80) (v := ?_) (a' := ?_) #[true, true, true, true, true, true, true, true, true, true, true, true, true, true, true, true, true, true, true, false, true, false, true, false, false, false, false, false, false, false, false, false, false, false, false, false, false, false, false, false, false, false, false, false] rfl rfl (any_of HT_.out (by kernel_rfl)) (fun _ _ _ h => h) (Or.inl ⟨by rfl, ?_⟩) ?_ ?_; rotate_left
                    next =>
                     intro w'; go_simp; (with_reducible rfl)
                    rotate_left
                    next =>
                     simp only [Act.put, List.setIfInBounds_toArray, List.set_cons_zero, List.set_cons_succ, i64_w, i32_w]; rfl
                    refine take_ (i := 19) (N := some 81) (v := ?_) (a' := ?_) #[true, true, true, true, true, true, true, true, true, true, true, true, true, true, true, true, true, true, true, true, true, false, true, false, false, false, false, false, false, false, false, false, false, false, false, false, false, false, false, false, false, false, false, false] rfl rfl (take_ofW HT_.out HW_.out (by kernel_rfl)) (fun _ _ _ h => h) (Or.inl ⟨by rfl, ?_⟩) hHeld ?_ ?_; rotate_left
                    next =>
                     rintro w' ⟨s0, s1, s2, s3, s4, s5, s6, s7, s8, s9, s10, s11, s12, s13, s14, s15, s16, s17, s18, s19, s20, s21, s22, s23, s24, s25, s26, s27⟩; go_simp; (with_reducible rfl)
                    rotate_left
                    next =>
                     simp only [Act.put, List.setIfInBounds_toArray, List.set_cons_zero, List.set_cons_succ, i64_w, i32_w]; rfl
                    refine take_ (i := 21) (N := some 83) (v := ?_) (a' := ?_) #[true, true, true, true, true, true, true, true, true, true, true, true, true, true, true, true, true, true, true, true, true, true, true, false, false, false, false, false, false, false, false, false, false, false, false, false, false, false, false, false, false, false, false, false] rfl rfl (take_ofW HT_.out HW_.out (by kernel_rfl)) (fun _ _ _ h => h) (Or.inl ⟨by rfl, ?_⟩) hHeld ?_ ?_; rotate_left
                    next =>
                     rintro w' ⟨s0, s1, s2, s3, s4, s5, s6, s7, s8, s9, s10, s11, s12, s13, s14, s15, s16, s17, s18, s19, s20, s21, s22, s23, s24, s25, s26, s27⟩; go_simp; (with_reducible rfl)
                    rotate_left
                    next =>
                     simp only [Act.put, List.setIfInBounds_toArray, List.set_cons_zero, List.set_cons_succ, i64_w, i32_w]; rfl
                    refine pure_ (i := 23) (N := some 85) (v := ?_) (a' := ?_) #[true, true, true, true, true, true, true, true, true, true, true, true, true, true, true, true, true, true, true, true, true, true, true, true, false, false, false, false, false, false, false, false, false, false, false, false, false, false, false, false, false, false, false, false] rfl rfl (any_of HT_.out (by kernel_rfl)) (fun _ _ _ h => h) (Or.inl ⟨by rfl, ?_⟩) ?_ ?_; rotate_left
                    next =>
                     intro w'; go_simp; (with_reducible rfl)
                    rotate_left
                    next =>
                     simp only [Act.put, List.setIfInBounds_toArray, List.set_cons_zero, List.set_cons_succ, i64_w, i32_w]; rfl
                    refine pure_ (i := 24) (N := some 86) (v := ?_) (a' := ?_) #[true, true, true, true, true, true, true, true, true, true, true, true, true, true, true, true, true, true, true, true, true, true, true, true, true, false, false, false, false, false, false, false, false, false, false, false, false, false, false, false, false, false, false, false] rfl rfl (any_of HT_.out (by kernel_rfl)) (fun _ _ _ h => h) (Or.inl ⟨by rfl, ?_⟩) ?_ ?_; rotate_left
                    next =>
                     intro w'; go_simp; (with_reducible rfl)
                    rotate_left
                    next =>
                     simp only [Act.put, List.setIfInBounds_toArray, List.set_cons_zero, List.set_cons_succ, i64_w, i32_w]; rfl
                    refine take_ (i := 25) (N := some 87) (v := ?_) (a' := ?_) #[true, true, true, true, true, true, true, true, true, true, true, true, true, true, true, true, true, true, true, true, true, true, true, true, true, true, false, false, false, false, false, false, false, false, false, false, false, false, false, false, false, false, false, false] rfl rfl (take_ofW HT_.out HW_.out (by kernel_rfl)) (fun _ _ _ h => h) (Or.inl ⟨by rfl, ?_⟩) hHeld ?_ ?_; rotate_left
                    next =>
                     rintro w' ⟨s0, s1, s2, s3, s4, s5, s6, s7, s8, s9, s10, s11, s12, s13, s14, s15, s16, s17, s18, s19, s20, s21, s22, s23, s24, s25, s26, s27⟩; go_simp; (with_reducible rfl)
                    rotate_left
                    next =>
                     simp only [Act.put, List.setIfInBounds_toArray, List.set_cons_zero, List.set_cons_succ, i64_w, i32_w]; rfl
                    refine pure_ (i := 26) (N := some 88) (v := ?_) (a' := ?_) #[true, true, true, true, true, true, true, true, true, true, true, true, true, true, true, true, true, true, true, true, true, true, true, true, true, true, true, false, false, false, false, false, false, false, false, false, false, false, false, false, false, false, false, false] rfl rfl (any_of HT_.out (by kernel_rfl)) (fun _ _ _ h => h) (Or.inl ⟨by rfl, ?_⟩) ?_ ?_; rotate_left
                    next =>
                     intro w'; go_simp; (with_reducible rfl)
                    rotate_left
                    next =>
                     simp only [Act.put, List.setIfInBounds_toArray, List.set_cons_zero, List.set_cons_succ, i64_w, i32_w]; rfl
                    refine pure_ (i := 27) (N := some 89) (v := ?_) (a' := ?_) #[true, true, true, true, true, true, true, true, true, true, true, true, true, true, true, true, true, true, true, true, true, true, true, true, true, true, true, true, false, false, false, false, false, false, false, false, false, false, false, false, false, false, false, false] rfl rfl (any_of HT_.out (by kernel_rfl)) (fun _ _ _ h => h) (Or.inl ⟨by rfl, ?_⟩) ?_ ?_; rotate_left
                    next =>
                     intro w'; go_simp; (with_reducible rfl)
                    rotate_left
                    next =>
                     simp only [Act.put, List.setIfInBounds_toArray, List.set_cons_zero, List.set_cons_succ, i64_w, i32_w]; rfl
                    refine pure_ (i := 28) (N := some 90) (v := ?_) (a' := ?_) #[true, true, true, true, true, true, true, true, true, true, true, true, true, true, true, true, true, true, true, true, true, true, true, true, true, true, true, true, true, false, false, false, false, false, false, false, false, false, false, false, false, false, false, false] rfl rfl (any_of HT_.out (by kernel_rfl)) (fun _ _ _ h => h) (Or.inl ⟨by rfl, ?_⟩) ?_ ?_; rotate_left
                    next =>
                     intro w'; go_simp; (with_reducible rfl)
                    rotate_left
                    next =>
                     simp only [Act.put, List.setIfInBounds_toArray, List.set_cons_zero, List.set_cons_succ, i64_w, i32_w]; rfl
                    refine pure_ (i := 29) (N := some 91) (v := ?_) (a' := ?_) #[true, true, true, true, true, true, true, true, true, true, true, true, true, true, true, true, true, true, true, true, true, true, true, true, true, true, true, true, true, true, false, false, false, false, false, false, false, false, false, false, false, false, false, false] rfl rfl (any_of HT_.out (by kernel_rfl)) (fun _ _ _ h => h) (Or.inl ⟨by rfl, ?_⟩) ?_ ?_; rotate_left
                    next =>
                     intro w'; go_simp; (with_reducible rfl)
                    rotate_left
                    next =>
                     simp only [Act.put, List.setIfInBounds_toArray, List.set_cons_zero, List.set_cons_succ, i64_w, i32_w]; rfl
                    refine pure_ (i := 31) (N := some 93) (v := ?_) (a' := ?_) #[true, true, true, true, true, true, true, true, true, true, true, true, true, true, true, true, true, true, true, true, true, true, true, true, true, true, true, true, true, true, false, true, false, false, false, false, false, false, false, false, false, false, false, false] rfl rfl (any_of HT_.out (by kernel_rfl)) (fun _ _ _ h => h) (Or.inl ⟨by rfl, ?_⟩) ?_ ?_; rotate_left
                    next =>
                     intro w'; go_simp; (with_reducible rfl)
                    rotate_left
                    next =>
                     simp only [Act.put, List.setIfInBounds_toArray, List.set_cons_zero, List.set_cons_succ, i64_w, i32_w]; rfl
                    refine pure_ (i := 35) (N := some 97) (v := ?_) (a' := ?_) #[true, true, true, true, true, true, true, true, true, true, true, true, true, true, true, true, true, true, true, true, true, true, true, true, true, true, true, true, true, true, false, true, false, false, false, true, false, false, false, false, false, false, false, false] rfl rfl (any_of HT_.out (by kernel_rfl)) (fun _ _ _ h => h) (Or.inl ⟨by rfl, ?_⟩) ?_ ?_; rotate_left
                    next =>
                     intro w'; go_simp; (with_reducible rfl)
                    rotate_left
                    next =>
                     simp only [Act.put, List.setIfInBounds_toArray, List.set_cons_zero, List.set_cons_succ, i64_w, i32_w]; rfl
                    refine pure_ (i := 37) (N := some 99) (v := ?_) (a' := ?_) #[true, true, true, true, true, true, true, true, true, true, true, true, true, true, true, true, true, true, true, true, true, true, true, true, true, true, true, true, true, true, false, true, false, false, false, true, false, true, false, false, false, false, false, false] rfl rfl (any_of HT_.out (by kernel_rfl)) (fun _ _ _ h => h) (Or.inl ⟨by rfl, ?_⟩) ?_ ?_; rotate_left
                    next =>
                     intro w'; go_simp; (with_reducible rfl)
                    rotate_left
                    next =>
                     simp only [Act.put, List.setIfInBounds_toArray, List.set_cons_zero, List.set_cons_succ, i64_w, i32_w]; rfl
                    refine take_ (i := 30) (N := some 92) (v := ?_) (a' := ?_) #[true, true, true, true, true, true, true, true, true, true, true, true, true, true, true, true, true, true, true, true, true, true, true, true, true, true, true, true, true, true, true, true, false, false, false, true, false, true, false, false, false, false, false, false] rfl rfl (take_ofW HT_.out HW_.out (by kernel_rfl)) (fun _ _ _ h => h) (Or.inl ⟨by rfl, ?_⟩) hHeld ?_ ?_; rotate_left
                    next =>
                     rintro w' ⟨s0, s1, s2, s3, s4, s5, s6, s7, s8, s9, s10, s11, s12, s13, s14, s15, s16, s17, s18, s19, s20, s21, s22, s23, s24, s25, s26, s27⟩; go_simp; (with_reducible rfl)
                    rotate_left
                    next =>
                     simp only [Act.put, List.setIfInBounds_toArray, List.set_cons_zero, List.set_cons_succ, i64_w, i32_w]; rfl
                    refine pure_ (i := 32) (N := some 94) (v := ?_) (a' := ?_) #[true, true, true, true, true, true, true, true, true, true, true, true, true, true, true, true, true, true, true, true, true, true, true, true, true, true, true, true, true, true, true, true, true, false, false, true, false, true, false, false, false, false, false, false] rfl rfl (any_of HT_.out (by kernel_rfl)) (fun _ _ _ h => h) (Or.inl ⟨by rfl, ?_⟩) ?_ ?_; rotate_left
                    next =>
                     intro w'; go_simp; (with_reducible rfl)
                    rotate_left
                    next =>
                     simp only [Act.put, List.setIfInBounds_toArray, List.set_cons_zero, List.set_cons_succ, i64_w, i32_w]; rfl
                    refine pure_ (i := 33) (N := some 95) (v := ?_) (a' := ?_) #[true, true, true, true, true, true, true, true, true, true, true, true, true, true, true, true, true, true, true, true, true, true, true, true, true, true, true, true, true, true, true, true, true, true, false, true, false, true, false, false, false, false, false, false] rfl rfl (any_of HT_.out (by kernel_rfl)) (fun _ _ _ h => h) (Or.inl ⟨by rfl, ?_⟩) ?_ ?_; rotate_left
                    next =>
                     intro w'; go_simp; (with_reducible rfl)
                    rotate_left
                    next =>
                     simp only [Act.put, List.setIfInBounds_toArray, List.set_cons_zero, List.set_cons_succ, i64_w, i32_w]; rfl
                    refine take_ (i := 34) (N := some 96) (v := ?_) (a' := ?_) #[true, true, true, true, true, true, true, true, true, true, true, true, true, true, true, true, true, true, true, true, true, true, true, true, true, true, true, true, true, true, true, true, true, true, true, true, false, true, false, false, false, false, false, false] rfl rfl (take_ofW HT_.out HW_.out (by kernel_rfl)) (fun _ _ _ h => h) (Or.inl ⟨by rfl, ?_⟩) hHeld ?_ ?_; rotate_left
                    next =>
                     rintro w' ⟨s0, s1, s2, s3, s4, s5, s6, s7, s8, s9, s10, s11, s12, s13, s14, s15, s16, s17, s18, s19, s20, s21, s22, s23, s24, s25, s26, s27⟩; go_simp; (with_reducible rfl)
                    rotate_left
                    next =>
                     simp only [Act.put, List.setIfInBounds_toArray, List.set_cons_zero, List.set_cons_succ, i64_w, i32_w]; rfl
                    refine take_ (i := 36) (N := some 98) (v := ?_) (a' := ?_) #[true, true, true, true, true, true, true, true, true, true, true, true, true, true, true, true, true, true, true, true, true, true, true, true, true, true, true, true, true, true, true, true, true, true, true, true, true, true, false, false, false, false, false, false] rfl rfl (take_ofW HT_.out HW_.out (by kernel_rfl)) (fun _ _ _ h => h) (Or.inl ⟨by rfl, ?_⟩) hHeld ?_ ?_; rotate_left
                    next =>
                     rintro w' ⟨s0, s1, s2, s3, s4, s5, s6, s7, s8, s9, s10, s11, s12, s13, s14, s15, s16, s17, s18, s19, s20, s21, s22, s23, s24, s25, s26, s27⟩; go_simp; (with_reducible rfl)
                    rotate_left
                    next =>
                     simp only [Act.put, List.setIfInBounds_toArray, List.set_cons_zero, List.set_cons_succ, i64_w, i32_w]; rfl
                    refine pure_ (i := 38) (N := some 100) (v := ?_) (a' := ?_) #[true, true, true, true, true, true, true, true, true, true, true, true, true, true, true, true, true, true, true, true, true, true, true, true, true, true, true, true, true, true, true, true, true, true, true, true, true, true, true, false, false, false, false, false] rfl rfl (any_of HT_.out (by kernel_rfl)) (fun _ _ _ h => h) (Or.inl ⟨by rfl, ?_⟩) ?_ ?_; rotate_left
                    next =>
                     intro w'; go_simp; (with_reducible rfl)
                    rotate_left
                    next =>
                     simp only [Act.put, List.setIfInBounds_toArray, List.set_cons_zero, List.set_cons_succ, i64_w, i32_w]; rfl
                    refine pure_ (i := 39) (N := some 101) (v := ?_) (a' := ?_) #[true, true, true, true, true, true, true, true, true, true, true, true, true, true, true, true, true, true, true, true, true, true, true, true, true, true, true, true, true, true, true, true, true, true, true, true, true, true, true, true, false, false, false, false] rfl rfl (any_of HT_.out (by kernel_rfl)) (fun _ _ _ h => h) (Or.inl ⟨by rfl, ?_⟩) ?_ ?_; rotate_left
                    next =>
                     intro w'; go_simp; (with_reducible rfl)
                    rotate_left
                    next =>
                     simp only [Act.put, List.setIfInBounds_toArray, List.set_cons_zero, List.set_cons_succ, i64_w, i32_w]; rfl
                    refine take_ (i := 40) (N := some 102) (v := ?_) (a' := ?_) #[true, true, true, true, true, true, true, true, true, true, true, true, true, true, true, true, true, true, true, true, true, true, true, true, true, true, true, true, true, true, true, true, true, true, true, true, true, true, true, true, true, false, false, false] rfl rfl (take_ofW HT_.out HW_.out (by kernel_rfl)) (fun _ _ _ h => h) (Or.inl ⟨by rfl, ?_⟩) hHeld ?_ ?_; rotate_left
                    next =>
                     rintro w' ⟨s0, s1, s2, s3, s4, s5, s6, s7, s8, s9, s10, s11, s12, s13, s14, s15, s16, s17, s18, s19, s20, s21, s22, s23, s24, s25, s26, s27⟩; go_simp; (with_reducible rfl)
                    rotate_left
                    next =>
                     simp only [Act.put, List.setIfInBounds_toArray, List.set_cons_zero, List.set_cons_succ, i64_w, i32_w]; rfl
                    refine one_ (i := 41) (N := some 103) #[true, true, true, true, true, true, true, true, true, true, true, true, true, true, true, true, true, true, true, true, true, true, true, true, true, true, true, true, true, true, true, true, true, true, true, true, true, true, true, true, true, true, false, false] rfl rfl (one_of HT_.out (by kernel_rfl)) (by decide) (fun K hK => ?_); refine goes_ Try.func29 (by kernel_rfl) rfl #[.agg #[.slice A190_2 ((rd_T91 ((rd_T89 l0_0 x5_2).f1) x8_4).f2.f0).length c190_2, .slice A190_3 ((rd_T91 ((rd_T89 l0_0 x5_2).f1) x8_4).f2.f1).length c190_3], .agg #[.slice A191_2 ((rd_T91 ((rd_T89 l1_0 x5_2).f1) x8_4).f2.f0).length c191_2, .slice A191_3 ((rd_T91 ((rd_T89 l1_0 x5_2).f1) x8_4).f2.f1).length c191_3]] (by rfl) rfl rfl z29q23 ?_; (with_reducible refine (ih k4 (by have := HJ2.out; have := HK2.out; have := HJ17.out; have := HK4.out; omega) _ _ ((rd_T91 ((rd_T89 l0_0 x5_2).f1) x8_4).f2.f0) _ _ ((rd_T91 ((rd_T89 l0_0 x5_2).f1) x8_4).f2.f1) _ _ ((rd_T91 ((rd_T89 l1_0 x5_2).f1) x8_4).f2.f0) _ _ ((rd_T91 ((rd_T89 l1_0 x5_2).f1) x8_4).f2.f1) true _ ?side1 ?side2 ?side3 ?side4 ?side5 ?side6 ?side7 ?side8 A52.out).mono ?_); (case side1 => have hr_ := HR194_2.out; exact z29q3); (case side2 => exact HC194_2.out); (case side3 => have hr_ := HR194_3.out; exact z29q3); (case side4 => exact HC194_3.out); (case side5 => have hr_ := HR195_2.out; exact z29q3); (case side6 => exact HC195_2.out); (case side7 => have hr_ := HR195_3.out; exact z29q3); (case side8 => exact HC195_3.out); rintro e w59 ⟨rfl, hb⟩; refine ⟨_, rfl, ?_⟩; have n0_ := Aside0.mk (blk_below (g := gb183) (o := .cells #[.slice (some ad186) l0_0.length c0_0, .slice A0_1 l0_1.length c0_1] 57 (0, 0)) z29q5 hb); have n1_ := Aside0.mk (blk_below (g := gb184) (o := .cells #[.slice (some ad188) l1_0.length c1_0, .slice A1_1 l1_1.length c1_1] 57 (0, 0)) z29q12 hb); have n2_ := Aside0.mk (blk_below (g := gb187) (o := .cells #[.int .i64 ((rd_T89 l0_0 x5_2).f0), .slice (some ad190) ((rd_T89 l0_0 x5_2).f1).length c186_1] 89 (0, 0)) z29q27 hb); have n3_ := Aside0.mk (blk_below (g := gb189) (o := .cells #[.int .i64 ((rd_T89 l1_0 x5_2).f0), .slice (some ad191) ((rd_T89 l1_0 x5_2).f1).length c188_1] 89 (0, 0)) z29q26 hb); have n4_ := Aside0.mk (below_step z29q22 hb); clear BK183; clear BK184; clear BK187; clear BK189; clear HB; have BK183 := n0_; have BK184 := n1_; have BK187 := n2_; have BK189 := n3_; have HB := n4_; clear n0_ n1_ n2_ n3_ n4_; (try clear hb); (try clear hb2); (try clear hk); (try clear hi); refine hK.out _ _ ⟨(blk_cell BK187.out 0).trans rfl, (blk_cell BK187.out 1).trans rfl, (blk_cell BK189.out 0).trans rfl, (blk_cell BK189.out 1).trans rfl, (cellB HB.out hw190_0), (cellB HB.out hw190_1), (cellB HB.out hw190_2), (cellB HB.out hw190_3), (cellB HB.out hw191_0), (cellB HB.out hw191_1), (cellB HB.out hw191_2), (cellB HB.out hw191_3), (cellB HB.out hw192_0), (cellB HB.out hw192_1), (cellB HB.out hw192_2), (cellB HB.out hw192_3), (cellB HB.out hw193_0), (cellB HB.out hw193_1), (cellB HB.out hw193_2), (cellB HB.out hw193_3), (cellB HB.out hw194_0), (cellB HB.out hw194_1), (cellB HB.out hw194_2), (cellB HB.out hw194_3), (cellB HB.out hw195_0), (cellB HB.out hw195_1), (cellB HB.out hw195_2), (cellB HB.out hw195_3)⟩ (fun hHeld => ?_); clear hK K; refine norm_ (a' := ?_) ?_ ?_; rotate_left
                    next =>
                     show Act.put _ (some 103) _ = _; simp only [Act.put, List.setIfInBounds_toArray, List.set_cons_zero, List.set_cons_succ, i64_w, i32_w]; rfl
                    refine pure_ (i := 42) (N := some 104) (v := ?_) (a' := ?_) #[true, true, true, true, true, true, true, true, true, true, true, true, true, true, true, true, true, true, true, true, true, true, true, true, true, true, true, true, true, true, true, true, true, true, true, true, true, true, true, true, true, true, true, false] rfl rfl (any_of HT_.out (by kernel_rfl)) (fun _ _ _ h => h) (Or.inl ⟨by rfl, ?_⟩) ?_ ?_; rotate_left
                    next =>
                     intro w'; go_simp; (with_reducible rfl)
                    rotate_left
                    next =>
                     simp only [Act.put, List.setIfInBounds_toArray, List.set_cons_zero, List.set_cons_succ, i64_w, i32_w]; rfl
                    refine pure_ (i := 43) (N := some 105) (v := ?_) (a' := ?_) #[true, true, true, true, true, true, true, true, true, true, true, true, true, true, true, true, true, true, true, true, true, true, true, true, true, true, true, true, true, true, true, true, true, true, true, true, true, true, true, true, true, true, true, true] rfl rfl (any_of HT_.out (by kernel_rfl)) (fun _ _ _ h => h) (Or.inl ⟨by rfl, ?_⟩) ?_ ?_; rotate_left
                    next =>
                     intro w'; go_simp; (with_reducible rfl)
                    rotate_left
                    next =>
                     simp only [Act.put, List.setIfInBounds_toArray, List.set_cons_zero, List.set_cons_succ, i64_w, i32_w]; rfl
                    refine done_ (done_of HT_.out (by kernel_rfl)) ?_; (try go_wp2); go_roundg k4; case measure => have := HJ2.out; have := HK2.out; have := HJ17.out; have := HK4.out; omega
                    case rel => exact ⟨(wrap64 (x8_4 + 1)), z29q20, H', ⟨by have := HJ2.out; have := HK2.out; have := HJ17.out; have := HK4.out; omega⟩, ⟨z29q10⟩, ⟨z29q9⟩, ⟨z29q29⟩, ⟨z29q28⟩, ⟨z29q1⟩⟩
                   next => as_aux_lemma =>
                    replace c53 := Bool.eq_false_iff.mpr c53; subst c53; have H1 : (some false) = some r := by rw [if_neg (show ¬ (false = true) by decide)] at H; exact H
                    clear H; have H := H1; clear H1; obtain rfl := Option.some.inj H; have hnb60 := NB187_183.out; have hnc60 := NB183_187.out; have hnb61 := NB187_184.out; have hnc61 := NB184_187.out; have hnb62 := NB187_189.out; have hnc62 := NB189_187.out; obtain ⟨hcz63_0, hcz63_1, hfz63_0, hfz63_1⟩ := cellsF2 BK187.out; (try go_wp2); have n0_ := Aside0.mk (blk_drew BK183.out); have n1_ := Aside0.mk (blk_drew BK184.out); have n2_ := Aside0.mk (blk_drew BK187.out); have n3_ := Aside0.mk (blk_drew BK189.out); have n4_ := Aside0.mk (below_drew1 HB.out); clear BK183; clear BK184; clear BK187; clear BK189; clear HB; have BK183 := n0_; have BK184 := n1_; have BK187 := n2_; have BK189 := n3_; have HB := n4_; clear n0_ n1_ n2_ n3_ n4_; have p190 : 0 ≤ (x8_4 : Int) := of_decide_eq_true z29q2; have q190 : x8_4 < (((rd_T89 l0_0 x5_2).f1).length : Int) := of_decide_eq_true z29q2; obtain ⟨ad190, A190_2, c190_2, A190_3, c190_3, e190, hx190_0, hx190_1, hx190_2, hx190_3, hl190_2, hi190_2, hl190_3, hi190_3⟩ := at_T91 HR186_1.out x8_4 p190 q190; have hw190_3 := hx190_3; have hw190_2 := hx190_2; have hw190_1 := hx190_1; have hw190_0 := hx190_0; cases e190; replace hx190_0 := cellB HB.out hx190_0; replace hx190_1 := cellB HB.out hx190_1; replace hx190_2 := cellB HB.out hx190_2; replace hx190_3 := cellB HB.out hx190_3; have HR190_2 := Aside0.mk hi190_2; have HC190_2 := Aside0.mk hl190_2; clear hi190_2 hl190_2; have HR190_3 := Aside0.mk hi190_3; have HC190_3 := Aside0.mk hl190_3; clear hi190_3 hl190_3; replace p190 := eq_true p190; replace q190 := eq_true q190; have p191 : 0 ≤ (x8_4 : Int) := of_decide_eq_true z29q2; have q191 : x8_4 < (((rd_T89 l1_0 x5_2).f1).length : Int) := of_decide_eq_true z29q2; obtain ⟨ad191, A191_2, c191_2, A191_3, c191_3, e191, hx191_0, hx191_1, hx191_2, hx191_3, hl191_2, hi191_2, hl191_3, hi191_3⟩ := at_T91 HR188_1.out x8_4 p191 q191; have hw191_3 := hx191_3; have hw191_2 := hx191_2; have hw191_1 := hx191_1; have hw191_0 := hx191_0; cases e191; replace hx191_0 := cellB HB.out hx191_0; replace hx191_1 := cellB HB.out hx191_1; replace hx191_2 := cellB HB.out hx191_2; replace hx191_3 := cellB HB.out hx191_3; have HR191_2 := Aside0.mk hi191_2; have HC191_2 := Aside0.mk hl191_2; clear hi191_2 hl191_2; have HR191_3 := Aside0.mk hi191_3; have HC191_3 := Aside0.mk hl191_3; clear hi191_3 hl191_3; replace p191 := eq_true p191; replace q191 := eq_true q191; have p192 : 0 ≤ (x8_4 : Int) := of_decide_eq_true z29q2; have q192 : x8_4 < (((rd_T89 l0_0 x5_2).f1).length : Int) := of_decide_eq_true z29q2; obtain ⟨ad192, A192_2, c192_2, A192_3, c192_3, e192, hx192_0, hx192_1, hx192_2, hx192_3, hl192_2, hi192_2, hl192_3, hi192_3⟩ := at_T91 HR186_1.out x8_4 p192 q192; have hw192_3 := hx192_3; have hw192_2 := hx192_2; have hw192_1 := hx192_1; have hw192_0 := hx192_0; obtain rfl : ad190 = ad192 := (by injection e192); replace hx192_0 := cellB HB.out hx192_0; replace hx192_1 := cellB HB.out hx192_1; replace hx192_2 := cellB HB.out hx192_2; replace hx192_3 := cellB HB.out hx192_3; have HR192_2 := Aside0.mk hi192_2; have HC192_2 := Aside0.mk hl192_2; clear hi192_2 hl192_2; have HR192_3 := Aside0.mk hi192_3; have HC192_3 := Aside0.mk hl192_3; clear hi192_3 hl192_3; replace p192 := eq_true p192; replace q192 := eq_true q192; have ea_ := Option.some.inj (hx190_2.symm.trans hx192_2); injection ea_ with ea_ en_ ec_; subst ea_; subst ec_; clear en_; have ea_ := Option.some.inj (hx190_3.symm.trans hx192_3); injection ea_ with ea_ en_ ec_; subst ea_; subst ec_; clear en_; have p193 : 0 ≤ (x8_4 : Int) := of_decide_eq_true z29q2; have q193 : x8_4 < (((rd_T89 l1_0 x5_2).f1).length : Int) := of_decide_eq_true z29q2; obtain ⟨ad193, A193_2, c193_2, A193_3, c193_3, e193, hx193_0, hx193_1, hx193_2, hx193_3, hl193_2, hi193_2, hl193_3, hi193_3⟩ := at_T91 HR188_1.out x8_4 p193 q193; have hw193_3 := hx193_3; have hw193_2 := hx193_2; have hw193_1 := hx193_1; have hw193_0 := hx193_0; obtain rfl : ad191 = ad193 := (by injection e193); replace hx193_0 := cellB HB.out hx193_0; replace hx193_1 := cellB HB.out hx193_1; replace hx193_2 := cellB HB.out hx193_2; replace hx193_3 := cellB HB.out hx193_3; have HR193_2 := Aside0.mk hi193_2; have HC193_2 := Aside0.mk hl193_2; clear hi193_2 hl193_2; have HR193_3 := Aside0.mk hi193_3; have HC193_3 := Aside0.mk hl193_3; clear hi193_3 hl193_3; replace p193 := eq_true p193; replace q193 := eq_true q193; have ea_ := Option.some.inj (hx191_2.symm.trans hx193_2); injection ea_ with ea_ en_ ec_; subst ea_; subst ec_; clear en_; have ea_ := Option.some.inj (hx191_3.symm.trans hx193_3); injection ea_ with ea_ en_ ec_; subst ea_; subst ec_; clear en_; have p194 : 0 ≤ (x8_4 : Int) := of_decide_eq_true z29q2; have q194 : x8_4 < (((rd_T89 l0_0 x5_2).f1).length : Int) := of_decide_eq_true z29q2; obtain ⟨ad194, A194_2, c194_2, A194_3, c194_3, e194, hx194_0, hx194_1, hx194_2, hx194_3, hl194_2, hi194_2, hl194_3, hi194_3⟩ := at_T91 HR186_1.out x8_4 p194 q194; have hw194_3 := hx194_3; have hw194_2 := hx194_2; have hw194_1 := hx194_1; have hw194_0 := hx194_0; obtain rfl : ad190 = ad194 := (by injection e194); replace hx194_0 := cellB HB.out hx194_0; replace hx194_1 := cellB HB.out hx194_1; replace hx194_2 := cellB HB.out hx194_2; replace hx194_3 := cellB HB.out hx194_3; have HR194_2 := Aside0.mk hi194_2; have HC194_2 := Aside0.mk hl194_2; clear hi194_2 hl194_2; have HR194_3 := Aside0.mk hi194_3; have HC194_3 := Aside0.mk hl194_3; clear hi194_3 hl194_3; replace p194 := eq_true p194; replace q194 := eq_true q194; have ea_ := Option.some.inj (hx190_2.symm.trans hx194_2); injection ea_ with ea_ en_ ec_; subst ea_; subst ec_; clear en_; have ea_ := Option.some.inj (hx190_3.symm.trans hx194_3); injection ea_ with ea_ en_ ec_; subst ea_; subst ec_; clear en_; have p195 : 0 ≤ (x8_4 : Int) := of_decide_eq_true z29q2; have q195 : x8_4 < (((rd_T89 l1_0 x5_2).f1).length : Int) := of_decide_eq_true z29q2; obtain ⟨ad195, A195_2, c195_2, A195_3, c195_3, e195, hx195_0, hx195_1, hx195_2, hx195_3, hl195_2, hi195_2, hl195_3, hi195_3⟩ := at_T91 HR188_1.out x8_4 p195 q195; have hw195_3 := hx195_3; have hw195_2 := hx195_2; have hw195_1 := hx195_1; have hw195_0 := hx195_0; obtain rfl : ad191 = ad195 := (by injection e195); replace hx195_0 := cellB HB.out hx195_0; replace hx195_1 := cellB HB.out hx195_1; replace hx195_2 := cellB HB.out hx195_2; replace hx195_3 := cellB HB.out hx195_3; have HR195_2 := Aside0.mk hi195_2; have HC195_2 := Aside0.mk hl195_2; clear hi195_2 hl195_2; have HR195_3 := Aside0.mk hi195_3; have HC195_3 := Aside0.mk hl195_3; clear hi195_3 hl195_3; replace p195 := eq_true p195; replace q195 := eq_true q195; have ea_ := Option.some.inj (hx191_2.symm.trans hx195_2); injection ea_ with ea_ en_ ec_; subst ea_; subst ec_; clear en_; have ea_ := Option.some.inj (hx191_3.symm.trans hx195_3); injection ea_ with ea_ en_ ec_; subst ea_; subst ec_; clear en_; refine start_ (n := 44) (S := fun w' => w'.cell? ⟨gb187, 0, none⟩ = some (.int .i64 ((rd_T89 l0_0 x5_2).f0)) ∧ w'.cell? ⟨gb187, 1, none⟩ = some (.slice (some ad190) ((rd_T89 l0_0 x5_2).f1).length c186_1) ∧ w'.cell? ⟨gb189, 0, none⟩ = some (.int .i64 ((rd_T89 l1_0 x5_2).f0)) ∧ w'.cell? ⟨gb189, 1, none⟩ = some (.slice (some ad191) ((rd_T89 l1_0 x5_2).f1).length c188_1) ∧ w'.cell? (ad190.add ((x8_4).toNat * 4)) = some (.int .i64 ((rd_T91 ((rd_T89 l0_0 x5_2).f1) x8_4).f0)) ∧ w'.cell? ⟨(ad190.add ((x8_4).toNat * 4)).block, (ad190.add ((x8_4).toNat * 4)).off + 1, none⟩ = some (.string ((rd_T91 ((rd_T89 l0_0 x5_2).f1) x8_4).f1)) ∧ w'.cell? ⟨(ad190.add ((x8_4).toNat * 4)).block, (ad190.add ((x8_4).toNat * 4)).off + 2, none⟩ = some (.slice A190_2 ((rd_T91 ((rd_T89 l0_0 x5_2).f1) x8_4).f2.f0).length c190_2) ∧ w'.cell? ⟨(ad190.add ((x8_4).toNat * 4)).block, (ad190.add ((x8_4).toNat * 4)).off + 3, none⟩ = some (.slice A190_3 ((rd_T91 ((rd_T89 l0_0 x5_2).f1) x8_4).f2.f1).length c190_3) ∧ w'.cell? (ad191.add ((x8_4).toNat * 4)) = some (.int .i64 ((rd_T91 ((rd_T89 l1_0 x5_2).f1) x8_4).f0)) ∧ w'.cell? ⟨(ad191.add ((x8_4).toNat * 4)).block, (ad191.add ((x8_4).toNat * 4)).off + 1, none⟩ = some (.string ((rd_T91 ((rd_T89 l1_0 x5_2).f1) x8_4).f1)) ∧ w'.cell? ⟨(ad191.add ((x8_4).toNat * 4)).block, (ad191.add ((x8_4).toNat * 4)).off + 2, none⟩ = some (.slice A191_2 ((rd_T91 ((rd_T89 l1_0 x5_2).f1) x8_4).f2.f0).length c191_2) ∧ w'.cell? ⟨(ad191.add ((x8_4).toNat * 4)).block, (ad191.add ((x8_4).toNat * 4)).off + 3, none⟩ = some (.slice A191_3 ((rd_T91 ((rd_T89 l1_0 x5_2).f1) x8_4).f2.f1).length c191_3) ∧ w'.cell? (ad190.add ((x8_4).toNat * 4)) = some (.int .i64 ((rd_T91 ((rd_T89 l0_0 x5_2).f1) x8_4).f0)) ∧ w'.cell? ⟨(ad190.add ((x8_4).toNat * 4)).block, (ad190.add ((x8_4).toNat * 4)).off + 1, none⟩ = some (.string ((rd_T91 ((rd_T89 l0_0 x5_2).f1) x8_4).f1)) ∧ w'.cell? ⟨(ad190.add ((x8_4).toNat * 4)).block, (ad190.add ((x8_4).toNat * 4)).off + 2, none⟩ = some (.slice A190_2 ((rd_T91 ((rd_T89 l0_0 x5_2).f1) x8_4).f2.f0).length c190_2) ∧ w'.cell? ⟨(ad190.add ((x8_4).toNat * 4)).block, (ad190.add ((x8_4).toNat * 4)).off + 3, none⟩ = some (.slice A190_3 ((rd_T91 ((rd_T89 l0_0 x5_2).f1) x8_4).f2.f1).length c190_3) ∧ w'.cell? (ad191.add ((x8_4).toNat * 4)) = some (.int .i64 ((rd_T91 ((rd_T89 l1_0 x5_2).f1) x8_4).f0)) ∧ w'.cell? ⟨(ad191.add ((x8_4).toNat * 4)).block, (ad191.add ((x8_4).toNat * 4)).off + 1, none⟩ = some (.string ((rd_T91 ((rd_T89 l1_0 x5_2).f1) x8_4).f1)) ∧ w'.cell? ⟨(ad191.add ((x8_4).toNat * 4)).block, (ad191.add ((x8_4).toNat * 4)).off + 2, none⟩ = some (.slice A191_2 ((rd_T91 ((rd_T89 l1_0 x5_2).f1) x8_4).f2.f0).length c191_2) ∧ w'.cell? ⟨(ad191.add ((x8_4).toNat * 4)).block, (ad191.add ((x8_4).toNat * 4)).off + 3, none⟩ = some (.slice A191_3 ((rd_T91 ((rd_T89 l1_0 x5_2).f1) x8_4).f2.f1).length c191_3) ∧ w'.cell? (ad190.add ((x8_4).toNat * 4)) = some (.int .i64 ((rd_T91 ((rd_T89 l0_0 x5_2).f1) x8_4).f0)) ∧ w'.cell? ⟨(ad190.add ((x8_4).toNat * 4)).block, (ad190.add ((x8_4).toNat * 4)).off + 1, none⟩ = some (.string ((rd_T91 ((rd_T89 l0_0 x5_2).f1) x8_4).f1)) ∧ w'.cell? ⟨(ad190.add ((x8_4).toNat * 4)).block, (ad190.add ((x8_4).toNat * 4)).off + 2, none⟩ = some (.slice A190_2 ((rd_T91 ((rd_T89 l0_0 x5_2).f1) x8_4).f2.f0).length c190_2) ∧ w'.cell? ⟨(ad190.add ((x8_4).toNat * 4)).block, (ad190.add ((x8_4).toNat * 4)).off + 3, none⟩ = some (.slice A190_3 ((rd_T91 ((rd_T89 l0_0 x5_2).f1) x8_4).f2.f1).length c190_3) ∧ w'.cell? (ad191.add ((x8_4).toNat * 4)) = some (.int .i64 ((rd_T91 ((rd_T89 l1_0 x5_2).f1) x8_4).f0)) ∧ w'.cell? ⟨(ad191.add ((x8_4).toNat * 4)).block, (ad191.add ((x8_4).toNat * 4)).off + 1, none⟩ = some (.string ((rd_T91 ((rd_T89 l1_0 x5_2).f1) x8_4).f1)) ∧ w'.cell? ⟨(ad191.add ((x8_4).toNat * 4)).block, (ad191.add ((x8_4).toNat * 4)).off + 2, none⟩ = some (.slice A191_2 ((rd_T91 ((rd_T89 l1_0 x5_2).f1) x8_4).f2.f0).length c191_2) ∧ w'.cell? ⟨(ad191.add ((x8_4).toNat * 4)).block, (ad191.add ((x8_4).toNat * 4)).off + 3, none⟩ = some (.slice A191_3 ((rd_T91 ((rd_T89 l1_0 x5_2).f1) x8_4).f2.f1).length c191_3)) (ds := []) #[false, false, false, false, false, false, false, false, false, false, false, false, false, false, false, false, false, false, false, false, false, false, false, false, false, false, false, false, false, false, false, false, false, false, false, false, false, false, false, false, false, false, false, false] (by kernel_rfl) rfl rfl ⟨(blk_cell BK187.out 0).trans rfl, (blk_cell BK187.out 1).trans rfl, (blk_cell BK189.out 0).trans rfl, (blk_cell BK189.out 1).trans rfl, (cellB HB.out hw190_0), (cellB HB.out hw190_1), (cellB HB.out hw190_2), (cellB HB.out hw190_3), (cellB HB.out hw191_0), (cellB HB.out hw191_1), (cellB HB.out hw191_2), (cellB HB.out hw191_3), (cellB HB.out hw192_0), (cellB HB.out hw192_1), (cellB HB.out hw192_2), (cellB HB.out hw192_3), (cellB HB.out hw193_0), (cellB HB.out hw193_1), (cellB HB.out hw193_2), (cellB HB.out hw193_3), (cellB HB.out hw194_0), (cellB HB.out hw194_1), (cellB HB.out hw194_2), (cellB HB.out hw194_3), (cellB HB.out hw195_0), (cellB HB.out hw195_1), (cellB HB.out hw195_2), (cellB HB.out hw195_3)⟩ (fun hHeld => ?_); refine with_tabW spec_SameMsg.tab13 spec_SameMsg.bits13 (fun HT_ HW_ => ?_); generalize wr.drew = w64 at BK183 BK184 BK187 BK189 HB HR190_2 HR190_3 HR191_2 HR191_3 HR192_2 HR192_3 HR193_2 HR193_3 HR194_2 HR194_3 HR195_2 HR195_3 hx190_0 hx190_1 hx190_2 hx190_3 hx191_0 hx191_1 hx191_2 hx191_3 hx192_0 hx192_1 hx192_2 hx192_3 hx193_0 hx193_1 hx193_2 hx193_3 hx194_0 hx194_1 hx194_2 hx194_3 hx195_0 hx195_1 hx195_2 hx195_3 hHeld ⊢; refine pure_ (i := 0) (N := some 62) (v := ?_) (a' := ?_) #[true, false, false, false, false, false, false, false, false, false, false, false, false, false, false, false, false, false, false, false, false, false, false, false, false, false, false, false, false, false, false, false, false, false, false, false, false, false, false, false, false, false, false, false] rfl rfl (any_of HT_.out (by kernel_rfl)) (fun _ _ _ h => h) (Or.inl ⟨by rfl, ?_⟩) ?_ ?_; rotate_left
                    next =>
                     intro w'; go_simp; (with_reducible rfl)
                    rotate_left
                    next =>
                     simp only [Act.put, List.setIfInBounds_toArray, List.set_cons_zero, List.set_cons_succ, i64_w, i32_w]; rfl
                    refine pure_ (i := 2) (N := some 64) (v := ?_) (a' := ?_) #[true, false, true, false, false, false, false, false, false, false, false, false, false, false, false, false, false, false, false, false, false, false, false, false, false, false, false, false, false, false, false, false, false, false, false, false, false, false, false, false, false, false, false, false] rfl rfl (any_of HT_.out (by kernel_rfl)) (fun _ _ _ h => h) (Or.inl ⟨by rfl, ?_⟩) ?_ ?_; rotate_left
                    next =>
                     intro w'; go_simp; (with_reducible rfl)
                    rotate_left
                    next =>
                     simp only [Act.put, List.setIfInBounds_toArray, List.set_cons_zero, List.set_cons_succ, i64_w, i32_w]; rfl
                    refine pure_ (i := 6) (N := some 68) (v := ?_) (a' := ?_) #[true, false, true, false, false, false, true, false, false, false, false, false, false, false, false, false, false, false, false, false, false, false, false, false, false, false, false, false, false, false, false, false, false, false, false, false, false, false, false, false, false, false, false, false] rfl rfl (any_of HT_.out (by kernel_rfl)) (fun _ _ _ h => h) (Or.inl ⟨by rfl, ?_⟩) ?_ ?_; rotate_left
                    next =>
                     intro w'; go_simp; (with_reducible rfl)
                    rotate_left
                    next =>
                     simp only [Act.put, List.setIfInBounds_toArray, List.set_cons_zero, List.set_cons_succ, i64_w, i32_w]; rfl
                    refine pure_ (i := 8) (N := some 70) (v := ?_) (a' := ?_) #[true, false, true, false, false, false, true, false, true, false, false, false, false, false, false, false, false, false, false, false, false, false, false, false, false, false, false, false, false, false, false, false, false, false, false, false, false, false, false, false, false, false, false, false] rfl rfl (any_of HT_.out (by kernel_rfl)) (fun _ _ _ h => h) (Or.inl ⟨by rfl, ?_⟩) ?_ ?_; rotate_left
                    next =>
                     intro w'; go_simp; (with_reducible rfl)
                    rotate_left
                    next =>
                     simp only [Act.put, List.setIfInBounds_toArray, List.set_cons_zero, List.set_cons_succ, i64_w, i32_w]; rfl
                    refine take_ (i := 1) (N := some 63) (v := ?_) (a' := ?_) #[true, true, true, false, false, false, true, false, true, false, false, false, false, false, false, false, false, false, false, false, false, false, false, false, false, false, false, false, false, false, false, false, false, false, false, false, false, false, false, false, false, false, false, false] rfl rfl (take_ofW HT_.out HW_.out (by kernel_rfl)) (fun _ _ _ h => h) (Or.inl ⟨by rfl, ?_⟩) hHeld ?_ ?_; rotate_left
                    next =>
                     rintro w' ⟨s0, s1, s2, s3, s4, s5, s6, s7, s8, s9, s10, s11, s12, s13, s14, s15, s16, s17, s18, s19, s20, s21, s22, s23, s24, s25, s26, s27⟩; go_simp; (with_reducible rfl)
                    rotate_left
                    next =>
                     simp only [Act.put, List.setIfInBounds_toArray, List.set_cons_zero, List.set_cons_succ, i64_w, i32_w]; rfl
                    refine pure_ (i := 3) (N := some 65) (v := ?_) (a' := ?_) #[true, true, true, true, false, false, true, false, true, false, false, false, false, false, false, false, false, false, false, false, false, false, false, false, false, false, false, false, false, false, false, false, false, false, false, false, false, false, false, false, false, false, false, false] rfl rfl (any_of HT_.out (by kernel_rfl)) (fun _ _ _ h => h) (Or.inl ⟨by rfl, ?_⟩) ?_ ?_; rotate_left
                    next =>
                     intro w'; go_simp; (with_reducible rfl)
                    rotate_left
                    next =>
                     simp only [Act.put, List.setIfInBounds_toArray, List.set_cons_zero, List.set_cons_succ, i64_w, i32_w]; rfl
                    refine pure_ (i := 4) (N := some 66) (v := ?_) (a' := ?_) #[true, true, true, true, true, false, true, false, true, false, false, false, false, false, false, false, false, false, false, false, false, false, false, false, false, false, false, false, false, false, false, false, false, false, false, false, false, false, false, false, false, false, false, false] rfl rfl (any_of HT_.out (by kernel_rfl)) (fun _ _ _ h => h) (Or.inl ⟨by rfl, ?_⟩) ?_ ?_; rotate_left
                    next =>
                     intro w'; go_simp; (with_reducible rfl)
                    rotate_left
                    next =>
                     simp only [Act.put, List.setIfInBounds_toArray, List.set_cons_zero, List.set_cons_succ, i64_w, i32_w]; rfl
                    refine take_ (i := 5) (N := some 67) (v := ?_) (a' := ?_) #[true, true, true, true, true, true, true, false, true, false, false, false, false, false, false, false, false, false, false, false, false, false, false, false, false, false, false, false, false, false, false, false, false, false, false, false, false, false, false, false, false, false, false, false] rfl rfl (take_ofW HT_.out HW_.out (by kernel_rfl)) (fun _ _ _ h => h) (Or.inl ⟨by rfl, ?_⟩) hHeld ?_ ?_; rotate_left
                    next =>
                     rintro w' ⟨s0, s1, s2, s3, s4, s5, s6, s7, s8, s9, s10, s11, s12, s13, s14, s15, s16, s17, s18, s19, s20, s21, s22, s23, s24, s25, s26, s27⟩; go_simp; (with_reducible rfl)
                    rotate_left
                    next =>
                     simp only [Act.put, List.setIfInBounds_toArray, List.set_cons_zero, List.set_cons_succ, i64_w, i32_w]; rfl
                    refine take_ (i := 7) (N := some 69) (v := ?_) (a' := ?_) #[true, true, true, true, true, true, true, true, true, false, false, false, false, false, false, false, false, false, false, false, false, false, false, false, false, false, false, false, false, false, false, false, false, false, false, false, false, false, false, false, false, false, false, false] rfl rfl (take_ofW HT_.out HW_.out (by kernel_rfl)) (fun _ _ _ h => h) (Or.inl ⟨by rfl, ?_⟩) hHeld ?_ ?_; rotate_left
                    next =>
                     rintro w' ⟨s0, s1, s2, s3, s4, s5, s6, s7, s8, s9, s10, s11, s12, s13, s14, s15, s16, s17, s18, s19, s20, s21, s22, s23, s24, s25, s26, s27⟩; go_simp; (with_reducible rfl)
                    rotate_left
                    next =>
                     simp only [Act.put, List.setIfInBounds_toArray, List.set_cons_zero, List.set_cons_succ, i64_w, i32_w]; rfl
                    refine pure_ (i := 9) (N := some 71) (v := ?_) (a' := ?_) #[true, true, true, true, true, true, true, true, true, true, false, false, false, false, false, false, false, false, false, false, false, false, false, false, false, false, false, false, false, false, false, false, false, false, false, false, false, false, false, false, false, false, false, false] rfl rfl (any_of HT_.out (by kernel_rfl)) (fun _ _ _ h => h) (Or.inl ⟨by rfl, ?_⟩) ?_ ?_; rotate_left
                    next =>
                     intro w'; go_simp; (with_reducible rfl)
                    rotate_left
                    next =>
                     simp only [Act.put, List.setIfInBounds_toArray, List.set_cons_zero, List.set_cons_succ, i64_w, i32_w]; rfl
                    refine pure_ (i := 10) (N := some 72) (v := ?_) (a' := ?_) #[true, true, true, true, true, true, true, true, true, true, true, false, false, false, false, false, false, false, false, false, false, false, false, false, false, false, false, false, false, false, false, false, false, false, false, false, false, false, false, false, false, false, false, false] rfl rfl (any_of HT_.out (by kernel_rfl)) (fun _ _ _ h => h) (Or.inl ⟨by rfl, ?_⟩) ?_ ?_; rotate_left
                    next =>
                     intro w'; go_simp; (with_reducible rfl)
                    rotate_left
                    next =>
                     simp only [Act.put, List.setIfInBounds_toArray, List.set_cons_zero, List.set_cons_succ, i64_w, i32_w]; rfl
                    refine take_ (i := 11) (N := some 73) (v := ?_) (a' := ?_) #[true, true, true, true, true, true, true, true, true, true, true, true, false, false, false, false, false, false, false, false, false, false, false, false, false, false, false, false, false, false, false, false, false, false, false, false, false, false, false, false, false, false, false, false] rfl rfl (take_ofW HT_.out HW_.out (by kernel_rfl)) (fun _ _ _ h => h) (Or.inl ⟨by rfl, ?_⟩) hHeld ?_ ?_; rotate_left
                    next =>
                     rintro w' ⟨s0, s1, s2, s3, s4, s5, s6, s7, s8, s9, s10, s11, s12, s13, s14, s15, s16, s17, s18, s19, s20, s21, s22, s23, s24, s25, s26, s27⟩; go_simp; (with_reducible rfl)
                    rotate_left
                    next =>
                     simp only [Act.put, List.setIfInBounds_toArray, List.set_cons_zero, List.set_cons_succ, i64_w, i32_w]; rfl
                    refine pure_ (i := 12) (N := some 74) (v := ?_) (a' := ?_) #[true, true, true, true, true, true, true, true, true, true, true, true, true, false, false, false, false, false, false, false, false, false, false, false, false, false, false, false, false, false, false, false, false, false, false, false, false, false, false, false, false, false, false, false] rfl rfl (any_of HT_.out (by kernel_rfl)) (fun _ _ _ h => h) (Or.inl ⟨by rfl, ?_⟩) ?_ ?_; rotate_left
                    next =>
                     intro w'; go_simp; (with_reducible rfl)
                    rotate_left
                    next =>
                     simp only [Act.put, List.setIfInBounds_toArray, List.set_cons_zero, List.set_cons_succ, i64_w, i32_w]; rfl
                    refine pure_ (i := 13) (N := some 75) (v := ?_) (a' := ?_) #[true, true, true, true, true, true, true, true, true, true, true, true, true, true, false, false, false, false, false, false, false, false, false, false, false, false, false, false, false, false, false, false, false, false, false, false, false, false, false, false, false, false, false, false] rfl rfl (any_of HT_.out (by kernel_rfl)) (fun _ _ _ h => h) (Or.inl ⟨by rfl, ?_⟩) ?_ ?_; rotate_left
                    next =>
                     intro w'; go_simp; (with_reducible rfl)
                    rotate_left
                    next =>
                     simp only [Act.put, List.setIfInBounds_toArray, List.set_cons_zero, List.set_cons_succ, i64_w, i32_w]; rfl
                    refine pure_ (i := 14) (N := some 76) (v := ?_) (a' := ?_) #[true, true, true, true, true, true, true, true, true, true, true, true, true, true, true, false, false, false, false, false, false, false, false, false, false, false, false, false, false, false, false, false, false, false, false, false, false, false, false, false, false, false, false, false] rfl rfl (any_of HT_.out (by kernel_rfl)) (fun _ _ _ h => h) (Or.inl ⟨by rfl, ?_⟩) ?_ ?_; rotate_left
                    next =>
                     intro w'; go_simp; (with_reducible rfl)
                    rotate_left
                    next =>
                     simp only [Act.put, List.setIfInBounds_toArray, List.set_cons_zero, List.set_cons_succ, i64_w, i32_w]; rfl
                    refine pure_ (i := 16) (N := some 78) (v := ?_) (a' := ?_) #[true, true, true, true, true, true, true, true, true, true, true, true, true, true, true, false, true, false, false, false, false, false, false, false, false, false, false, false, false, false, false, false, false, false, false, false, false, false, false, false, false, false, false, false] rfl rfl (any_of HT_.out (by kernel_rfl)) (fun _ _ _ h => h) (Or.inl ⟨by rfl, ?_⟩) ?_ ?_; rotate_left
                    next =>
                     intro w'; go_simp; (with_reducible rfl)
                    rotate_left
                    next =>
                     simp only [Act.put, List.setIfInBounds_toArray, List.set_cons_zero, List.set_cons_succ, i64_w, i32_w]; rfl
                    refine pure_ (i := 20) (N := some 82) (v := ?_) (a' := ?_) #[true, true, true, true, true, true, true, true, true, true, true, true, true, true, true, false, true, false, false, false, true, false, false, false, false, false, false, false, false, false, false, false, false, false, false, false, false, false, false, false, false, false, false, false] rfl rfl (any_of HT_.out (by kernel_rfl)) (fun _ _ _ h => h) (Or.inl ⟨by rfl, ?_⟩) ?_ ?_; rotate_left
                    next =>
                     intro w'; go_simp; (with_reducible rfl)
                    rotate_left
                    next =>
                     simp only [Act.put, List.setIfInBounds_toArray, List.set_cons_zero, List.set_cons_succ, i64_w, i32_w]; rfl
                    refine pure_ (i := 22) (N := some 84) (v := ?_) (a' := ?_) #[true, true, true, true, true, true, true, true, true, true, true, true, true, true, true, false, true, false, false, false, true, false, true, false, false, false, false, false, false, false, false, false, false, false, false, false, false, false, false, false, false, false, false, false] rfl rfl (any_of HT_.out (by kernel_rfl)) (fun _ _ _ h => h) (Or.inl ⟨by rfl, ?_⟩) ?_ ?_; rotate_left
                    next =>
                     intro w'; go_simp; (with_reducible rfl)
                    rotate_left
                    next =>
                     simp only [Act.put, List.setIfInBounds_toArray, List.set_cons_zero, List.set_cons_succ, i64_w, i32_w]; rfl
                    refine take_ (i := 15) (N := some 77) (v := ?_) (a' := ?_) #[true, true, true, true, true, true, true, true, true, true, true, true, true, true, true, true, true, false, false, false, true, false, true, false, false, false, false, false, false, false, false, false, false, false, false, false, false, false, false, false, false, false, false, false] rfl rfl (take_ofW HT_.out HW_.out (by kernel_rfl)) (fun _ _ _ h => h) (Or.inl ⟨by rfl, ?_⟩) hHeld ?_ ?_; rotate_left
                    next =>
                     rintro w' ⟨s0, s1, s2, s3, s4, s5, s6, s7, s8, s9, s10, s11, s12, s13, s14, s15, s16, s17, s18, s19, s20, s21, s22, s23, s24, s25, s26, s27⟩; go_simp; (with_reducible rfl)
                    rotate_left
                    next =>
                     simp only [Act.put, List.setIfInBounds_toArray, List.set_cons_zero, List.set_cons_succ, i64_w, i32_w]; rfl
                    refine pure_ (i := 17) (N := some 79) (v := ?_) (a' := ?_) #[true, true, true, true, true, true, true, true, true, true, true, true, true, true, true, true, true, true, false, false, true, false, true, false, false, false, false, false, false, false, false, false, false, false, false, false, false, false, false, false, false, false, false, false] rfl rfl (any_of HT_.out (by kernel_rfl)) (fun _ _ _ h => h) (Or.inl ⟨by rfl, ?_⟩) ?_ ?_; rotate_left
                    next =>
                     intro w'; go_simp; (with_reducible rfl)
                    rotate_left
                    next =>
                     simp only [Act.put, List.setIfInBounds_toArray, List.set_cons_zero, List.set_cons_succ, i64_w, i32_w]; rfl
                    refine pure_ (i := 18) (N := some 80) (v := ?_) (a' := ?_) #[true, true, true, true, true, true, true, true, true, true, true, true, true, true, true, true, true, true, true, false, true, false, true, false, false, false, false, false, false, false, false, false, false, false, false, false, false, false, false, false, false, false, false, false] rfl rfl (any_of HT_.out (by kernel_rfl)) (fun _ _ _ h => h) (Or.inl ⟨by rfl, ?_⟩) ?_ ?_; rotate_left
                    next =>
                     intro w'; go_simp; (with_reducible rfl)
                    rotate_left
                    next =>
                     simp only [Act.put, List.setIfInBounds_toArray, List.set_cons_zero, List.set_cons_succ, i64_w, i32_w]; rfl
                    refine take_ (i := 19) (N := some 81) (v := ?_) (a' := ?_) #[true, true, true, true, true, true, true, true, true, true, true, true, true, true, true, true, true, true, true, true, true, false, true, false, false, false, false, false, false, false, false, false, false, false, false, false, false, false, false, false, false, false, false, false] rfl rfl (take_ofW HT_.out HW_.out (by kernel_rfl)) (fun _ _ _ h => h) (Or.inl ⟨by rfl, ?_⟩) hHeld ?_ ?_; rotate_left
                    next =>
                     rintro w' ⟨s0, s1, s2, s3, s4, s5, s6, s7, s8, s9, s10, s11, s12, s13, s14, s15, s16, s17, s18, s19, s20, s21, s22, s23, s24, s25, s26, s27⟩; go_simp; (with_reducible rfl)
                    rotate_left
                    next =>
                     simp only [Act.put, List.setIfInBounds_toArray, List.set_cons_zero, List.set_cons_succ, i64_w, i32_w]; rfl
                    refine take_ (i := 21) (N := some 83) (v := ?_) (a' := ?_) #[true, true, true, true, true, true, true, true, true, true, true, true, true, true, true, true, true, true, true, true, true, true, true, false, false, false, false, false, false, false, false, false, false, false, false, false, false, false, false, false, false, false, false, false] rfl rfl (take_ofW HT_.out HW_.out (by kernel_rfl)) (fun _ _ _ h => h) (Or.inl ⟨by rfl, ?_⟩) hHeld ?_ ?_; rotate_left
                    next =>
                     rintro w' ⟨s0, s1, s2, s3, s4, s5, s6, s7, s8, s9, s10, s11, s12, s13, s14, s15, s16, s17, s18, s19, s20, s21, s22, s23, s24, s25, s26, s27⟩; go_simp; (with_reducible rfl)
                    rotate_left
                    next =>
                     simp only [Act.put, List.setIfInBounds_toArray, List.set_cons_zero, List.set_cons_succ, i64_w, i32_w]; rfl
                    refine pure_ (i := 23) (N := some 85) (v := ?_) (a' := ?_) #[true, true, true, true, true, true, true, true, true, true, true, true, true, true, true, true, true, true, true, true, true, true, true, true, false, false, false, false, false, false, false, false, false, false, false, false, false, false, false, false, false, false, false, false] rfl rfl (any_of HT_.out (by kernel_rfl)) (fun _ _ _ h => h) (Or.inl ⟨by rfl, ?_⟩) ?_ ?_; rotate_left
                    next =>
                     intro w'; go_simp; (with_reducible rfl)
                    rotate_left
                    next =>
                     simp only [Act.put, List.setIfInBounds_toArray, List.set_cons_zero, List.set_cons_succ, i64_w, i32_w]; rfl
                    refine pure_ (i := 24) (N := some 86) (v := ?_) (a' := ?_) #[true, true, true, true, true, true, true, true, true, true, true, true, true, true, true, true, true, true, true, true, true, true, true, true, true, false, false, false, false, false, false, false, false, false, false, false, false, false, false, false, false, false, false, false] rfl rfl (any_of HT_.out (by kernel_rfl)) (fun _ _ _ h => h) (Or.inl ⟨by rfl, ?_⟩) ?_ ?_; rotate_left
                    next =>
                     intro w'; go_simp; (with_reducible rfl)
                    rotate_left
                    next =>
                     simp only [Act.put, List.setIfInBounds_toArray, List.set_cons_zero, List.set_cons_succ, i64_w, i32_w]; rfl
                    refine take_ (i := 25) (N := some 87) (v := ?_) (a' := ?_) #[true, true, true, true, true, true, true, true, true, true, true, true, true, true, true, true, true, true, true, true, true, true, true, true, true, true, false, false, false, false, false, false, false, false, false, false, false, false, false, false, false, false, false, false] rfl rfl (take_ofW HT_.out HW_.out (by kernel_rfl)) (fun _ _ _ h => h) (Or.inl ⟨by rfl, ?_⟩) hHeld ?_ ?_; rotate_left
                    next =>
                     rintro w' ⟨s0, s1, s2, s3, s4, s5, s6, s7, s8, s9, s10, s11, s12, s13, s14, s15, s16, s17, s18, s19, s20, s21, s22, s23, s24, s25, s26, s27⟩; go_simp; (with_reducible rfl)
                    rotate_left
                    next =>
                     simp only [Act.put, List.setIfInBounds_toArray, List.set_cons_zero, List.set_cons_succ, i64_w, i32_w]; rfl
                    refine pure_ (i := 26) (N := some 88) (v := ?_) (a' := ?_) #[true, true, true, true, true, true, true, true, true, true, true, true, true, true, true, true, true, true, true, true, true, true, true, true, true, true, true, false, false, false, false, false, false, false, false, false, false, false, false, false, false, false, false, false] rfl rfl (any_of HT_.out (by kernel_rfl)) (fun _ _ _ h => h) (Or.inl ⟨by rfl, ?_⟩) ?_ ?_; rotate_left
                    next =>
                     intro w'; go_simp; (with_reducible rfl)
                    rotate_left
                    next =>
                     simp only [Act.put, List.setIfInBounds_toArray, List.set_cons_zero, List.set_cons_succ, i64_w, i32_w]; rfl
                    refine pure_ (i := 27) (N := some 89) (v := ?_) (a' := ?_) #[true, true, true, true, true, true, true, true, true, true, true, true, true, true, true, true, true, true, true, true, true, true, true, true, true, true, true, true, false, false, false, false, false, false, false, false, false, false, false, false, false, false, false, false] rfl rfl (any_of HT_.out (by kernel_rfl)) (fun _ _ _ h => h) (Or.inl ⟨by rfl, ?_⟩) ?_ ?_; rotate_left
                    next =>
                     intro w'; go_simp; (with_reducible rfl)
                    rotate_left
                    next =>
                     simp only [Act.put, List.setIfInBounds_toArray, List.set_cons_zero, List.set_cons_succ, i64_w, i32_w]; rfl
                    refine pure_ (i := 28) (N := some 90) (v := ?_) (a' := ?_) #[true, true, true, true, true, true, true, true, true, true, true, true, true, true, true, true, true, true, true, true, true, true, true, true, true, true, true, true, true, false, false, false, false, false, false, false, false, false, false, false, false, false, false, false] rfl rfl (any_of HT_.out (by kernel_rfl)) (fun _ _ _ h => h) (Or.inl ⟨by rfl, ?_⟩) ?_ ?_; rotate_left
                    next =>
                     intro w'; go_simp; (with_reducible rfl)
                    rotate_left
                    next =>
                     simp only [Act.put, List.setIfInBounds_toArray, List.set_cons_zero, List.set_cons_succ, i64_w, i32_w]; rfl
                    refine pure_ (i := 29) (N := some 91) (v := ?_) (a' := ?_) #[true, true, true, true, true, true, true, true, true, true, true, true, true, true, true, true, true, true, true, true, true, true, true, true, true, true, true, true, true, true, false, false, false, false, false, false, false, false, false, false, false, false, false, false] rfl rfl (any_of HT_.out (by kernel_rfl)) (fun _ _ _ h => h) (Or.inl ⟨by rfl, ?_⟩) ?_ ?_; rotate_left
                    next =>
                     intro w'; go_simp; (with_reducible rfl)
                    rotate_left
                    next =>
                     simp only [Act.put, List.setIfInBounds_toArray, List.set_cons_zero, List.set_cons_succ, i64_w, i32_w]; rfl
                    refine pure_ (i := 31) (N := some 93) (v := ?_) (a' := ?_) #[true, true, true, true, true, true, true, true, true, true, true, true, true, true, true, true, true, true, true, true, true, true, true, true, true, true, true, true, true, true, false, true, false, false, false, false, false, false, false, false, false, false, false, false] rfl rfl (any_of HT_.out (by kernel_rfl)) (fun _ _ _ h => h) (Or.inl ⟨by rfl, ?_⟩) ?_ ?_; rotate_left
                    next =>
                     intro w'; go_simp; (with_reducible rfl)
                    rotate_left
                    next =>
                     simp only [Act.put, List.setIfInBounds_toArray, List.set_cons_zero, List.set_cons_succ, i64_w, i32_w]; rfl
                    refine pure_ (i := 35) (N := some 97) (v := ?_) (a' := ?_) #[true, true, true, true, true, true, true, true, true, true, true, true, true, true, true, true, true, true, true, true, true, true, true, true, true, true, true, true, true, true, false, true, false, false, false, true, false, false, false, false, false, false, false, false] rfl rfl (any_of HT_.out (by kernel_rfl)) (fun _ _ _ h => h) (Or.inl ⟨by rfl, ?_⟩) ?_ ?_; rotate_left
                    next =>
                     intro w'; go_simp; (with_reducible rfl)
                    rotate_left
                    next =>
                     simp only [Act.put, List.setIfInBounds_toArray, List.set_cons_zero, List.set_cons_succ, i64_w, i32_w]; rfl
                    refine pure_ (i := 37) (N := some 99) (v := ?_) (a' := ?_) #[true, true, true, true, true, true, true, true, true, true, true, true, true, true, true, true, true, true, true, true, true, true, true, true, true, true, true, true, true, true, false, true, false, false, false, true, false, true, false, false, false, false, false, false] rfl rfl (any_of HT_.out (by kernel_rfl)) (fun _ _ _ h => h) (Or.inl ⟨by rfl, ?_⟩) ?_ ?_; rotate_left
                    next =>
                     intro w'; go_simp; (with_reducible rfl)
                    rotate_left
                    next =>
                     simp only [Act.put, List.setIfInBounds_toArray, List.set_cons_zero, List.set_cons_succ, i64_w, i32_w]; rfl
                    refine take_ (i := 30) (N := some 92) (v := ?_) (a' := ?_) #[true, true, true, true, true, true, true, true, true, true, true, true, true, true, true, true, true, true, true, true, true, true, true, true, true, true, true, true, true, true, true, true, false, false, false, true, false, true, false, false, false, false, false, false] rfl rfl (take_ofW HT_.out HW_.out (by kernel_rfl)) (fun _ _ _ h => h) (Or.inl ⟨by rfl, ?_⟩) hHeld ?_ ?_; rotate_left
                    next =>
                     rintro w' ⟨s0, s1, s2, s3, s4, s5, s6, s7, s8, s9, s10, s11, s12, s13, s14, s15, s16, s17, s18, s19, s20, s21, s22, s23, s24, s25, s26, s27⟩; go_simp; (with_reducible rfl)
                    rotate_left
                    next =>
                     simp only [Act.put, List.setIfInBounds_toArray, List.set_cons_zero, List.set_cons_succ, i64_w, i32_w]; rfl
                    refine pure_ (i := 32) (N := some 94) (v := ?_) (a' := ?_) #[true, true, true, true, true, true, true, true, true, true, true, true, true, true, true, true, true, true, true, true, true, true, true, true, true, true, true, true, true, true, true, true, true, false, false, true, false, true, false, false, false, false, false, false] rfl rfl (any_of HT_.out (by kernel_rfl)) (fun _ _ _ h => h) (Or.inl ⟨by rfl, ?_⟩) ?_ ?_; rotate_left
                    next =>
                     intro w'; go_simp; (with_reducible rfl)
                    rotate_left
                    next =>
                     simp only [Act.put, List.setIfInBounds_toArray, List.set_cons_zero, List.set_cons_succ, i64_w, i32_w]; rfl
                    refine pure_ (i := 33) (N := some 95) (v := ?_) (a' := ?_) #[true, true, true, true, true, true, true, true, true, true, true, true, true, true, true, true, true, true, true, true, true, true, true, true, true, true, true, true, true, true, true, true, true, true, false, true, false, true, false, false, false, false, false, false] rfl rfl (any_of HT_.out (by kernel_rfl)) (fun _ _ _ h => h) (Or.inl ⟨by rfl, ?_⟩) ?_ ?_; rotate_left
                    next =>
                     intro w'; go_simp; (with_reducible rfl)
                    rotate_left
                    next =>
                     simp only [Act.put, List.setIfInBounds_toArray, List.set_cons_zero, List.set_cons_succ, i64_w, i32_w]; rfl
                    refine take_ (i := 34) (N := some 96) (v := ?_) (a' := ?_) #[true, true, true, true, true, true, true, true, true, true, true, true, true, true, true, true, true, true, true, true, true, true, true, true, true, true, true, true, true, true, true, true, true, true, true, true, false, true, false, false, false, false, false, false] rfl rfl (take_ofW HT_.out HW_.out (by kernel_rfl)) (fun _ _ _ h => h) (Or.inl ⟨by rfl, ?_⟩) hHeld ?_ ?_; rotate_left
                    next =>
                     rintro w' ⟨s0, s1, s2, s3, s4, s5, s6, s7, s8, s9, s10, s11, s12, s13, s14, s15, s16, s17, s18, s19, s20, s21, s22, s23, s24, s25, s26, s27⟩; go_simp; (with_reducible rfl)
                    rotate_left
                    next =>
                     simp only [Act.put, List.setIfInBounds_toArray, List.set_cons_zero, List.set_cons_succ, i64_w, i32_w]; rfl
                    refine take_ (i := 36) (N := some 98) (v := ?_) (a' := ?_) #[true, true, true, true, true, true, true, true, true, true, true, true, true, true, true, true, true, true, true, true, true, true, true, true, true, true, true, true, true, true, true, true, true, true, true, true, true, true, false, false, false, false, false, false] rfl rfl (take_ofW HT_.out HW_.out (by kernel_rfl)) (fun _ _ _ h => h) (Or.inl ⟨by rfl, ?_⟩) hHeld ?_ ?_; rotate_left
                    next =>
                     rintro w' ⟨s0, s1, s2, s3, s4, s5, s6, s7, s8, s9, s10, s11, s12, s13, s14, s15, s16, s17, s18, s19, s20, s21, s22, s23, s24, s25, s26, s27⟩; go_simp; (with_reducible rfl)
                    rotate_left
                    next =>
                     simp only [Act.put, List.setIfInBounds_toArray, List.set_cons_zero, List.set_cons_succ, i64_w, i32_w]; rfl
                    refine pure_ (i := 38) (N := some 100) (v := ?_) (a' := ?_) #[true, true, true, true, true, true, true, true, true, true, true, true, true, true, true, true, true, true, true, true, true, true, true, true, true, true, true, true, true, true, true, true, true, true, true, true, true, true, true, false, false, false, false, false] rfl rfl (any_of HT_.out (by kernel_rfl)) (fun _ _ _ h => h) (Or.inl ⟨by rfl, ?_⟩) ?_ ?_; rotate_left
                    next =>
                     intro w'; go_simp; (with_reducible rfl)
                    rotate_left
                    next =>
                     simp only [Act.put, List.setIfInBounds_toArray, List.set_cons_zero, List.set_cons_succ, i64_w, i32_w]; rfl
                    refine pure_ (i := 39) (N := some 101) (v := ?_) (a' := ?_) #[true, true, true, true, true, true, true, true, true, true, true, true, true, true, true, true, true, true, true, true, true, true, true, true, true, true, true, true, true, true, true, true, true, true, true, true, true, true, true, true, false, false, false, false] rfl rfl (any_of HT_.out (by kernel_rfl)) (fun _ _ _ h => h) (Or.inl ⟨by rfl, ?_⟩) ?_ ?_; rotate_left
                    next =>
                     intro w'; go_simp; (with_reducible rfl)
                    rotate_left
                    next =>
                     simp only [Act.put, List.setIfInBounds_toArray, List.set_cons_zero, List.set_cons_succ, i64_w, i32_w]; rfl
                    refine take_ (i := 40) (N := some 102) (v := ?_) (a' := ?_) #[true, true, true, true, true, true, true, true, true, true, true, true, true, true, true, true, true, true, true, true, true, true, true, true, true, true, true, true, true, true, true, true, true, true, true, true, true, true, true, true, true, false, false, false] rfl rfl (take_ofW HT_.out HW_.out (by kernel_rfl)) (fun _ _ _ h => h) (Or.inl ⟨by rfl, ?_⟩) hHeld ?_ ?_; rotate_left
                    next =>
                     rintro w' ⟨s0, s1, s2, s3, s4, s5, s6, s7, s8, s9, s10, s11, s12, s13, s14, s15, s16, s17, s18, s19, s20, s21, s22, s23, s24, s25, s26, s27⟩; go_simp; (with_reducible rfl)
                    rotate_left
                    next =>
                     simp only [Act.put, List.setIfInBounds_toArray, List.set_cons_zero, List.set_cons_succ, i64_w, i32_w]; rfl
                    refine one_ (i := 41) (N := some 103) #[true, true, true, true, true, true, true, true, true, true, true, true, true, true, true, true, true, true, true, true, true, true, true, true, true, true, true, true, true, true, true, true, true, true, true, true, true, true, true, true, true, true, false, false] rfl rfl (one_of HT_.out (by kernel_rfl)) (by decide) (fun K hK => ?_); refine goes_ Try.func29 (by kernel_rfl) rfl #[.agg #[.slice A190_2 ((rd_T91 ((rd_T89 l0_0 x5_2).f1) x8_4).f2.f0).length c190_2, .slice A190_3 ((rd_T91 ((rd_T89 l0_0 x5_2).f1) x8_4).f2.f1).length c190_3], .agg #[.slice A191_2 ((rd_T91 ((rd_T89 l1_0 x5_2).f1) x8_4).f2.f0).length c191_2, .slice A191_3 ((rd_T91 ((rd_T89 l1_0 x5_2).f1) x8_4).f2.f1).length c191_3]] (by rfl) rfl rfl z29q23 ?_; (with_reducible refine (ih k4 (by have := HJ2.out; have := HK2.out; have := HJ17.out; have := HK4.out; omega) _ _ ((rd_T91 ((rd_T89 l0_0 x5_2).f1) x8_4).f2.f0) _ _ ((rd_T91 ((rd_T89 l0_0 x5_2).f1) x8_4).f2.f1) _ _ ((rd_T91 ((rd_T89 l1_0 x5_2).f1) x8_4).f2.f0) _ _ ((rd_T91 ((rd_T89 l1_0 x5_2).f1) x8_4).f2.f1) false _ ?side1 ?side2 ?side3 ?side4 ?side5 ?side6 ?side7 ?side8 A52.out).mono ?_); (case side1 => have hr_ := HR194_2.out; exact z29q3); (case side2 => exact HC194_2.out); (case side3 => have hr_ := HR194_3.out; exact z29q3); (case side4 => exact HC194_3.out); (case side5 => have hr_ := HR195_2.out; exact z29q3); (case side6 => exact HC195_2.out); (case side7 => have hr_ := HR195_3.out; exact z29q3); (case side8 => exact HC195_3.out); rintro e w65 ⟨rfl, hb⟩; refine ⟨_, rfl, ?_⟩; have n0_ := Aside0.mk (blk_below (g := gb183) (o := .cells #[.slice (some ad186) l0_0.length c0_0, .slice A0_1 l0_1.length c0_1] 57 (0, 0)) z29q5 hb); have n1_ := Aside0.mk (blk_below (g := gb184) (o := .cells #[.slice (some ad188) l1_0.length c1_0, .slice A1_1 l1_1.length c1_1] 57 (0, 0)) z29q12 hb); have n2_ := Aside0.mk (blk_below (g := gb187) (o := .cells #[.int .i64 ((rd_T89 l0_0 x5_2).f0), .slice (some ad190) ((rd_T89 l0_0 x5_2).f1).length c186_1] 89 (0, 0)) z29q27 hb); have n3_ := Aside0.mk (blk_below (g := gb189) (o := .cells #[.int .i64 ((rd_T89 l1_0 x5_2).f0), .slice (some ad191) ((rd_T89 l1_0 x5_2).f1).length c188_1] 89 (0, 0)) z29q26 hb); have n4_ := Aside0.mk (below_step z29q22 hb); clear BK183; clear BK184; clear BK187; clear BK189; clear HB; have BK183 := n0_; have BK184 := n1_; have BK187 := n2_; have BK189 := n3_; have HB := n4_; clear n0_ n1_ n2_ n3_ n4_; (try clear hb); (try clear hb2); (try clear hk); (try clear hi); refine hK.out _ _ ⟨(blk_cell BK187.out 0).trans rfl, (blk_cell BK187.out 1).trans rfl, (blk_cell BK189.out 0).trans rfl, (blk_cell BK189.out 1).trans rfl, (cellB HB.out hw190_0), (cellB HB.out hw190_1), (cellB HB.out hw190_2), (cellB HB.out hw190_3), (cellB HB.out hw191_0), (cellB HB.out hw191_1), (cellB HB.out hw191_2), (cellB HB.out hw191_3), (cellB HB.out hw192_0), (cellB HB.out hw192_1), (cellB HB.out hw192_2), (cellB HB.out hw192_3), (cellB HB.out hw193_0), (cellB HB.out hw193_1), (cellB HB.out hw193_2), (cellB HB.out hw193_3), (cellB HB.out hw194_0), (cellB HB.out hw194_1), (cellB HB.out hw194_2), (cellB HB.out hw194_3), (cellB HB.out hw195_0), (cellB HB.out hw195_1), (cellB HB.out hw195_2), (cellB HB.out hw195_3)⟩ (fun hHeld => ?_); clear hK K; refine norm_ (a' := ?_) ?_ ?_; rotate_left
                    next =>
                     show Act.put _ (some 103) _ = _; simp only [Act.put, List.setIfInBounds_toArray, List.set_cons_zero, List.set_cons_succ, i64_w, i32_w]; rfl
                    refine pure_ (i := 42) (N := some 104) (v := ?_) (a' := ?_) #[true, true, true, true, true, true, true, true, true, true, true, true, true, true, true, true, true, true, true, true, true, true, true, true, true, true, true, true, true, true, true, true, true, true, true, true, true, true, true, true, true, true, true, false] rfl rfl (any_of HT_.out (by kernel_rfl)) (fun _ _ _ h => h) (Or.inl ⟨by rfl, ?_⟩) ?_ ?_; rotate_left
                    next =>
                     intro w'; go_simp; (with_reducible rfl)
                    rotate_left
                    next =>
                     simp only [Act.put, List.setIfInBounds_toArray, List.set_cons_zero, List.set_cons_succ, i64_w, i32_w]; rfl
                    refine pure_ (i := 43) (N := some 105) (v := ?_) (a' := ?_) #[true, true, true, true, true, true, true, true, true, true, true, true, true, true, true, true, true, true, true, true, true, true, true, true, true, true, true, true, true, true, true, true, true, true, true, true, true, true, true, true, true, true, true, true] rfl rfl (any_of HT_.out (by kernel_rfl)) (fun _ _ _ h => h) (Or.inl ⟨by rfl, ?_⟩) ?_ ?_; rotate_left
                    next =>
                     intro w'; go_simp; (with_reducible rfl)
                    rotate_left
                    next =>
                     simp only [Act.put, List.setIfInBounds_toArray, List.set_cons_zero, List.set_cons_succ, i64_w, i32_w]; rfl
                    refine done_ (done_of HT_.out (by kernel_rfl)) ?_; (try go_wp2); go_ret; exact ⟨z29q13, z29q1⟩
                  next => as_aux_lemma =>
                   rw [if_neg c51] at H; have c51b0 : (((rd_T91 ((rd_T89 l0_0 x5_2).f1) x8_4).f1).toList == ((rd_T91 ((rd_T89 l1_0 x5_2).f1) x8_4).f1).toList) = false := beq_eq_false_iff_ne.mpr c51; have c51b1 : (((rd_T91 ((rd_T89 l0_0 x5_2).f1) x8_4).f1).toList != ((rd_T91 ((rd_T89 l1_0 x5_2).f1) x8_4).f1).toList) = true := bne_iff_ne.mpr c51; obtain rfl := Option.some.inj H; have hnb66 := NB187_183.out; have hnc66 := NB183_187.out; have hnb67 := NB187_184.out; have hnc67 := NB184_187.out; have hnb68 := NB187_189.out; have hnc68 := NB189_187.out; obtain ⟨hcz69_0, hcz69_1, hfz69_0, hfz69_1⟩ := cellsF2 BK187.out; (try go_wp2); have n0_ := Aside0.mk (blk_drew BK183.out); have n1_ := Aside0.mk (blk_drew BK184.out); have n2_ := Aside0.mk (blk_drew BK187.out); have n3_ := Aside0.mk (blk_drew BK189.out); have n4_ := Aside0.mk (below_drew1 HB.out); clear BK183; clear BK184; clear BK187; clear BK189; clear HB; have BK183 := n0_; have BK184 := n1_; have BK187 := n2_; have BK189 := n3_; have HB := n4_; clear n0_ n1_ n2_ n3_ n4_; have p190 : 0 ≤ (x8_4 : Int) := of_decide_eq_true z29q2; have q190 : x8_4 < (((rd_T89 l0_0 x5_2).f1).length : Int) := of_decide_eq_true z29q2; obtain ⟨ad190, A190_2, c190_2, A190_3, c190_3, e190, hx190_0, hx190_1, hx190_2, hx190_3, hl190_2, hi190_2, hl190_3, hi190_3⟩ := at_T91 HR186_1.out x8_4 p190 q190; have hw190_3 := hx190_3; have hw190_2 := hx190_2; have hw190_1 := hx190_1; have hw190_0 := hx190_0; cases e190; replace hx190_0 := cellB HB.out hx190_0; replace hx190_1 := cellB HB.out hx190_1; replace hx190_2 := cellB HB.out hx190_2; replace hx190_3 := cellB HB.out hx190_3; have HR190_2 := Aside0.mk hi190_2; have HC190_2 := Aside0.mk hl190_2; clear hi190_2 hl190_2; have HR190_3 := Aside0.mk hi190_3; have HC190_3 := Aside0.mk hl190_3; clear hi190_3 hl190_3; replace p190 := eq_true p190; replace q190 := eq_true q190; have p191 : 0 ≤ (x8_4 : Int) := of_decide_eq_true z29q2; have q191 : x8_4 < (((rd_T89 l1_0 x5_2).f1).length : Int) := of_decide_eq_true z29q2; obtain ⟨ad191, A191_2, c191_2, A191_3, c191_3, e191, hx191_0, hx191_1, hx191_2, hx191_3, hl191_2, hi191_2, hl191_3, hi191_3⟩ := at_T91 HR188_1.out x8_4 p191 q191; have hw191_3 := hx191_3; have hw191_2 := hx191_2; have hw191_1 := hx191_1; have hw191_0 := hx191_0; cases e191; replace hx191_0 := cellB HB.out hx191_0; replace hx191_1 := cellB HB.out hx191_1; replace hx191_2 := cellB HB.out hx191_2; replace hx191_3 := cellB HB.out hx191_3; have HR191_2 := Aside0.mk hi191_2; have HC191_2 := Aside0.mk hl191_2; clear hi191_2 hl191_2; have HR191_3 := Aside0.mk hi191_3; have HC191_3 := Aside0.mk hl191_3; clear hi191_3 hl191_3; replace p191 := eq_true p191; replace q191 := eq_true q191; have p192 : 0 ≤ (x8_4 : Int) := of_decide_eq_true z29q2; have q192 : x8_4 < (((rd_T89 l0_0 x5_2).f1).length : Int) := of_decide_eq_true z29q2; obtain ⟨ad192, A192_2, c192_2, A192_3, c192_3, e192, hx192_0, hx192_1, hx192_2, hx192_3, hl192_2, hi192_2, hl192_3, hi192_3⟩ := at_T91 HR186_1.out x8_4 p192 q192; have hw192_3 := hx192_3; have hw192_2 := hx192_2; have hw192_1 := hx192_1; have hw192_0 := hx192_0; obtain rfl : ad190 = ad192 := (by injection e192); replace hx192_0 := cellB HB.out hx192_0; replace hx192_1 := cellB HB.out hx192_1; replace hx192_2 := cellB HB.out hx192_2; replace hx192_3 := cellB HB.out hx192_3; have HR192_2 := Aside0.mk hi192_2; have HC192_2 := Aside0.mk hl192_2; clear hi192_2 hl192_2; have HR192_3 := Aside0.mk hi192_3; have HC192_3 := Aside0.mk hl192_3; clear hi192_3 hl192_3; replace p192 := eq_true p192; replace q192 := eq_true q192; have ea_ := Option.some.inj (hx190_2.symm.trans hx192_2); injection ea_ with ea_ en_ ec_; subst ea_; subst ec_; clear en_; have ea_ := Option.some.inj (hx190_3.symm.trans hx192_3); injection ea_ with ea_ en_ ec_; subst ea_; subst ec_; clear en_; have p193 : 0 ≤ (x8_4 : Int) := of_decide_eq_true z29q2; have q193 : x8_4 < (((rd_T89 l1_0 x5_2).f1).length : Int) := of_decide_eq_true z29q2; obtain ⟨ad193, A193_2, c193_2, A193_3, c193_3, e193, hx193_0, hx193_1, hx193_2, hx193_3, hl193_2, hi193_2, hl193_3, hi193_3⟩ := at_T91 HR188_1.out x8_4 p193 q193; have hw193_3 := hx193_3; have hw193_2 := hx193_2; have hw193_1 := hx193_1; have hw193_0 := hx193_0; obtain rfl : ad191 = ad193 := (by injection e193); replace hx193_0 := cellB HB.out hx193_0; replace hx193_1 := cellB HB.out hx193_1; replace hx193_2 := cellB HB.out hx193_2; replace hx193_3 := cellB HB.out hx193_3; have HR193_2 := Aside0.mk hi193_2; have HC193_2 := Aside0.mk hl193_2; clear hi193_2 hl193_2; have HR193_3 := Aside0.mk hi193_3; have HC193_3 := Aside0.mk hl193_3; clear hi193_3 hl193_3; replace p193 := eq_true p193; replace q193 := eq_true q193; have ea_ := Option.some.inj (hx191_2.symm.trans hx193_2); injection ea_ with ea_ en_ ec_; subst ea_; subst ec_; clear en_; have ea_ := Option.some.inj (hx191_3.symm.trans hx193_3); injection ea_ with ea_ en_ ec_; subst ea_; subst ec_; clear en_; refine start_ (n := 44) (S := fun w' => w'.cell? ⟨gb187, 0, none⟩ = some (.int .i64 ((rd_T89 l0_0 x5_2).f0)) ∧ w'.cell? ⟨gb187, 1, none⟩ = some (.slice (some ad190) ((rd_T89 l0_0 x5_2).f1).length c186_1) ∧ w'.cell? ⟨gb189, 0, none⟩ = some (.int .i64 ((rd_T89 l1_0 x5_2).f0)) ∧ w'.cell? ⟨gb189, 1, none⟩ = some (.slice (some ad191) ((rd_T89 l1_0 x5_2).f1).length c188_1) ∧ w'.cell? (ad190.add ((x8_4).toNat * 4)) = some (.int .i64 ((rd_T91 ((rd_T89 l0_0 x5_2).f1) x8_4).f0)) ∧ w'.cell? ⟨(ad190.add ((x8_4).toNat * 4)).block, (ad190.add ((x8_4).toNat * 4)).off + 1, none⟩ = some (.string ((rd_T91 ((rd_T89 l0_0 x5_2).f1) x8_4).f1)) ∧ w'.cell? ⟨(ad190.add ((x8_4).toNat * 4)).block, (ad190.add ((x8_4).toNat * 4)).off + 2, none⟩ = some (.slice A190_2 ((rd_T91 ((rd_T89 l0_0 x5_2).f1) x8_4).f2.f0).length c190_2) ∧ w'.cell? ⟨(ad190.add ((x8_4).toNat * 4)).block, (ad190.add ((x8_4).toNat * 4)).off + 3, none⟩ = some (.slice A190_3 ((rd_T91 ((rd_T89 l0_0 x5_2).f1) x8_4).f2.f1).length c190_3) ∧ w'.cell? (ad191.add ((x8_4).toNat * 4)) = some (.int .i64 ((rd_T91 ((rd_T89 l1_0 x5_2).f1) x8_4).f0)) ∧ w'.cell? ⟨(ad191.add ((x8_4).toNat * 4)).block, (ad191.add ((x8_4).toNat * 4)).off + 1, none⟩ = some (.string ((rd_T91 ((rd_T89 l1_0 x5_2).f1) x8_4).f1)) ∧ w'.cell? ⟨(ad191.add ((x8_4).toNat * 4)).block, (ad191.add ((x8_4).toNat * 4)).off + 2, none⟩ = some (.slice A191_2 ((rd_T91 ((rd_T89 l1_0 x5_2).f1) x8_4).f2.f0).length c191_2) ∧ w'.cell? ⟨(ad191.add ((x8_4).toNat * 4)).block, (ad191.add ((x8_4).toNat * 4)).off + 3, none⟩ = some (.slice A191_3 ((rd_T91 ((rd_T89 l1_0 x5_2).f1) x8_4).f2.f1).length c191_3) ∧ w'.cell? (ad190.add ((x8_4).toNat * 4)) = some (.int .i64 ((rd_T91 ((rd_T89 l0_0 x5_2).f1) x8_4).f0)) ∧ w'.cell? ⟨(ad190.add ((x8_4).toNat * 4)).block, (ad190.add ((x8_4).toNat * 4)).off + 1, none⟩ = some (.string ((rd_T91 ((rd_T89 l0_0 x5_2).f1) x8_4).f1)) ∧ w'.cell? ⟨(ad190.add ((x8_4).toNat * 4)).block, (ad190.add ((x8_4).toNat * 4)).off + 2, none⟩ = some (.slice A190_2 ((rd_T91 ((rd_T89 l0_0 x5_2).f1) x8_4).f2.f0).length c190_2) ∧ w'.cell? ⟨(ad190.add ((x8_4).toNat * 4)).block, (ad190.add ((x8_4).toNat * 4)).off + 3, none⟩ = some (.slice A190_3 ((rd_T91 ((rd_T89 l0_0 x5_2).f1) x8_4).f2.f1).length c190_3) ∧ w'.cell? (ad191.add ((x8_4).toNat * 4)) = some (.int .i64 ((rd_T91 ((rd_T89 l1_0 x5_2).f1) x8_4).f0)) ∧ w'.cell? ⟨(ad191.add ((x8_4).toNat * 4)).block, (ad191.add ((x8_4).toNat * 4)).off + 1, none⟩ = some (.string ((rd_T91 ((rd_T89 l1_0 x5_2).f1) x8_4).f1)) ∧ w'.cell? ⟨(ad191.add ((x8_4).toNat * 4)).block, (ad191.add ((x8_4).toNat * 4)).off + 2, none⟩ = some (.slice A191_2 ((rd_T91 ((rd_T89 l1_0 x5_2).f1) x8_4).f2.f0).length c191_2) ∧ w'.cell? ⟨(ad191.add ((x8_4).toNat * 4)).block, (ad191.add ((x8_4).toNat * 4)).off + 3, none⟩ = some (.slice A191_3 ((rd_T91 ((rd_T89 l1_0 x5_2).f1) x8_4).f2.f1).length c191_3)) (ds := []) #[false, false, false, false, false, false, false, false, false, false, false, false, false, false, false, false, false, false, false, false, false, false, false, false, false, false, false, false, false, false, false, false, false, false, false, false, false, false, false, false, false, false, false, false] (by kernel_rfl) rfl rfl ⟨(blk_cell BK187.out 0).trans rfl, (blk_cell BK187.out 1).trans rfl, (blk_cell BK189.out 0).trans rfl, (blk_cell BK189.out 1).trans rfl, (cellB HB.out hw190_0), (cellB HB.out hw190_1), (cellB HB.out hw190_2), (cellB HB.out hw190_3), (cellB HB.out hw191_0), (cellB HB.out hw191_1), (cellB HB.out hw191_2), (cellB HB.out hw191_3), (cellB HB.out hw192_0), (cellB HB.out hw192_1), (cellB HB.out hw192_2), (cellB HB.out hw192_3), (cellB HB.out hw193_0), (cellB HB.out hw193_1), (cellB HB.out hw193_2), (cellB HB.out hw193_3)⟩ (fun hHeld => ?_); refine with_tabW spec_SameMsg.tab13 spec_SameMsg.bits13 (fun HT_ HW_ => ?_); generalize wr.drew = w70 at BK183 BK184 BK187 BK189 HB HR190_2 HR190_3 HR191_2 HR191_3 HR192_2 HR192_3 HR193_2 HR193_3 hx190_0 hx190_1 hx190_2 hx190_3 hx191_0 hx191_1 hx191_2 hx191_3 hx192_0 hx192_1 hx192_2 hx192_3 hx193_0 hx193_1 hx193_2 hx193_3 hHeld ⊢; refine pure_ (i := 0) (N := some 62) (v := ?_) (a' := ?_) #[true, false, false, false, false, false, false, false, false, false, false, false, false, false, false, false, false, false, false, false, false, false, false, false, false, false, false, false, false, false, false, false, false, false, false, false, false, false, false, false, false, false, false, false] rfl rfl (any_of HT_.out (by kernel_rfl)) (fun _ _ _ h => h) (Or.inl ⟨by rfl, ?_⟩) ?_ ?_; rotate_left
                   next =>
                    intro w'; go_simp; (with_reducible rfl)
                   rotate_left
                   next =>
                    simp only [Act.put, List.setIfInBounds_toArray, List.set_cons_zero, List.set_cons_succ, i64_w, i32_w]; rfl
                   refine pure_ (i := 2) (N := some 64) (v := ?_) (a' := ?_) #[true, false, true, false, false, false, false, false, false, false, false, false, false, false, false, false, false, false, false, false, false, false, false, false, false, false, false, false, false, false, false, false, false, false, false, false, false, false, false, false, false, false, false, false] rfl rfl (any_of HT_.out (by kernel_rfl)) (fun _ _ _ h => h) (Or.inl ⟨by rfl, ?_⟩) ?_ ?_; rotate_left
                   next =>
                    intro w'; go_simp; (with_reducible rfl)
                   rotate_left
                   next =>
                    simp only [Act.put, List.setIfInBounds_toArray, List.set_cons_zero, List.set_cons_succ, i64_w, i32_w]; rfl
                   refine pure_ (i := 6) (N := some 68) (v := ?_) (a' := ?_) #[true, false, true, false, false, false, true, false, false, false, false, false, false, false, false, false, false, false, false, false, false, false, false, false, false, false, false, false, false, false, false, false, false, false, false, false, false, false, false, false, false, false, false, false] rfl rfl (any_of HT_.out (by kernel_rfl)) (fun _ _ _ h => h) (Or.inl ⟨by rfl, ?_⟩) ?_ ?_; rotate_left
                   next =>
                    intro w'; go_simp; (with_reducible rfl)
                   rotate_left
                   next =>
                    simp only [Act.put, List.setIfInBounds_toArray, List.set_cons_zero, List.set_cons_succ, i64_w, i32_w]; rfl
                   refine pure_ (i := 8) (N := some 70) (v := ?_) (a' := ?_) #[true, false, true, false, false, false, true, false, true, false, false, false, false, false, false, false, false, false, false, false, false, false, false, false, false, false, false, false, false, false, false, false, false, false, false, false, false, false, false, false, false, false, false, false] rfl rfl (any_of HT_.out (by kernel_rfl)) (fun _ _ _ h => h) (Or.inl ⟨by rfl, ?_⟩) ?_ ?_; rotate_left
                   next =>
                    intro w'; go_simp; (with_reducible rfl)
                   rotate_left
                   next =>
                    simp only [Act.put, List.setIfInBounds_toArray, List.set_cons_zero, List.set_cons_succ, i64_w, i32_w]; rfl
                   refine take_ (i := 1) (N := some 63) (v := ?_) (a' := ?_) #[true, true, true, false, false, false, true, false, true, false, false, false, false, false, false, false, false, false, false, false, false, false, false, false, false, false, false, false, false, false, false, false, false, false, false, false, false, false, false, false, false, false, false, false] rfl rfl (take_ofW HT_.out HW_.out (by kernel_rfl)) (fun _ _ _ h => h) (Or.inl ⟨by rfl, ?_⟩) hHeld ?_ ?_; rotate_left
                   next =>
                    rintro w' ⟨s0, s1, s2, s3, s4, s5, s6, s7, s8, s9, s10, s11, s12, s13, s14, s15, s16, s17, s18, s19⟩; go_simp; (with_reducible rfl)
                   rotate_left
                   next =>
                    simp only [Act.put, List.setIfInBounds_toArray, List.set_cons_zero, List.set_cons_succ, i64_w, i32_w]; rfl
                   refine pure_ (i := 3) (N := some 65) (v := ?_) (a' := ?_) #[true, true, true, true, false, false, true, false, true, false, false, false, false, false, false, false, false, false, false, false, false, false, false, false, false, false, false, false, false, false, false, false, false, false, false, false, false, false, false, false, false, false, false, false] rfl rfl (any_of HT_.out (by kernel_rfl)) (fun _ _ _ h => h) (Or.inl ⟨by rfl, ?_⟩) ?_ ?_; rotate_left
                   next =>
                    intro w'; go_simp; (with_reducible rfl)
                   rotate_left
                   next =>
                    simp only [Act.put, List.setIfInBounds_toArray, List.set_cons_zero, List.set_cons_succ, i64_w, i32_w]; rfl
                   refine pure_ (i := 4) (N := some 66) (v := ?_) (a' := ?_) #[true, true, true, true, true, false, true, false, true, false, false, false, false, false, false, false, false, false, false, false, false, false, false, false, false, false, false, false, false, false, false, false, false, false, false, false, false, false, false, false, false, false, false, false] rfl rfl (any_of HT_.out (by kernel_rfl)) (fun _ _ _ h => h) (Or.inl ⟨by rfl, ?_⟩) ?_ ?_; rotate_left
                   next =>
                    intro w'; go_simp; (with_reducible rfl)
                   rotate_left
                   next =>
                    simp only [Act.put, List.setIfInBounds_toArray, List.set_cons_zero, List.set_cons_succ, i64_w, i32_w]; rfl
                   refine take_ (i := 5) (N := some 67) (v := ?_) (a' := ?_) #[true, true, true, true, true, true, true, false, true, false, false, false, false, false, false, false, false, false, false, false, false, false, false, false, false, false, false, false, false, false, false, false, false, false, false, false, false, false, false, false, false, false, false, false] rfl rfl (take_ofW HT_.out HW_.out (by kernel_rfl)) (fun _ _ _ h => h) (Or.inl ⟨by rfl, ?_⟩) hHeld ?_ ?_; rotate_left
                   next =>
                    rintro w' ⟨s0, s1, s2, s3, s4, s5, s6, s7, s8, s9, s10, s11, s12, s13, s14, s15, s16, s17, s18, s19⟩; go_simp; (with_reducible rfl)
                   rotate_left
                   next =>
                    simp only [Act.put, List.setIfInBounds_toArray, List.set_cons_zero, List.set_cons_succ, i64_w, i32_w]; rfl
                   refine take_ (i := 7) (N := some 69) (v := ?_) (a' := ?_) #[true, true, true, true, true, true, true, true, true, false, false, false, false, false, false, false, false, false, false, false, false, false, false, false, false, false, false, false, false, false, false, false, false, false, false, false, false, false, false, false, false, false, false, false] rfl rfl (take_ofW HT_.out HW_.out (by kernel_rfl)) (fun _ _ _ h => h) (Or.inl ⟨by rfl, ?_⟩) hHeld ?_ ?_; rotate_left
                   next =>
                    rintro w' ⟨s0, s1, s2, s3, s4, s5, s6, s7, s8, s9, s10, s11, s12, s13, s14, s15, s16, s17, s18, s19⟩; go_simp; (with_reducible rfl)
                   rotate_left
                   next =>
                    simp only [Act.put, List.setIfInBounds_toArray, List.set_cons_zero, List.set_cons_succ, i64_w, i32_w]; rfl
                   refine pure_ (i := 9) (N := some 71) (v := ?_) (a' := ?_) #[true, true, true, true, true, true, true, true, true, true, false, false, false, false, false, false, false, false, false, false, false, false, false, false, false, false, false, false, false, false, false, false, false, false, false, false, false, false, false, false, false, false, false, false] rfl rfl (any_of HT_.out (by kernel_rfl)) (fun _ _ _ h => h) (Or.inl ⟨by rfl, ?_⟩) ?_ ?_; rotate_left
                   next =>
                    intro w'; go_simp; (with_reducible rfl)
                   rotate_left
                   next =>
                    simp only [Act.put, List.setIfInBounds_toArray, List.set_cons_zero, List.set_cons_succ, i64_w, i32_w]; rfl
                   refine pure_ (i := 10) (N := some 72) (v := ?_) (a' := ?_) #[true, true, true, true, true, true, true, true, true, true, true, false, false, false, false, false, false, false, false, false, false, false, false, false, false, false, false, false, false, false, false, false, false, false, false, false, false, false, false, false, false, false, false, false] rfl rfl (any_of HT_.out (by kernel_rfl)) (fun _ _ _ h => h) (Or.inl ⟨by rfl, ?_⟩) ?_ ?_; rotate_left
                   next =>
                    intro w'; go_simp; (with_reducible rfl)
                   rotate_left
                   next =>
                    simp only [Act.put, List.setIfInBounds_toArray, List.set_cons_zero, List.set_cons_succ, i64_w, i32_w]; rfl
                   refine take_ (i := 11) (N := some 73) (v := ?_) (a' := ?_) #[true, true, true, true, true, true, true, true, true, true, true, true, false, false, false, false, false, false, false, false, false, false, false, false, false, false, false, false, false, false, false, false, false, false, false, false, false, false, false, false, false, false, false, false] rfl rfl (take_ofW HT_.out HW_.out (by kernel_rfl)) (fun _ _ _ h => h) (Or.inl ⟨by rfl, ?_⟩) hHeld ?_ ?_; rotate_left
                   next =>
                    rintro w' ⟨s0, s1, s2, s3, s4, s5, s6, s7, s8, s9, s10, s11, s12, s13, s14, s15, s16, s17, s18, s19⟩; go_simp; (with_reducible rfl)
                   rotate_left
                   next =>
                    simp only [Act.put, List.setIfInBounds_toArray, List.set_cons_zero, List.set_cons_succ, i64_w, i32_w]; rfl
                   refine pure_ (i := 12) (N := some 74) (v := ?_) (a' := ?_) #[true, true, true, true, true, true, true, true, true, true, true, true, true, false, false, false, false, false, false, false, false, false, false, false, false, false, false, false, false, false, false, false, false, false, false, false, false, false, false, false, false, false, false, false] rfl rfl (any_of HT_.out (by kernel_rfl)) (fun _ _ _ h => h) (Or.inl ⟨by rfl, ?_⟩) ?_ ?_; rotate_left
                   next =>
                    intro w'; go_simp; (with_reducible rfl)
                   rotate_left
                   next =>
                    simp only [Act.put, List.setIfInBounds_toArray, List.set_cons_zero, List.set_cons_succ, i64_w, i32_w]; rfl
                   refine pure_ (i := 13) (N := some 75) (v := ?_) (a' := ?_) #[true, true, true, true, true, true, true, true, true, true, true, true, true, true, false, false, false, false, false, false, false, false, false, false, false, false, false, false, false, false, false, false, false, false, false, false, false, false, false, false, false, false, false, false] rfl rfl (any_of HT_.out (by kernel_rfl)) (fun _ _ _ h => h) (Or.inl ⟨by rfl, ?_⟩) ?_ ?_; rotate_left
                   next =>
                    intro w'; go_simp; (with_reducible rfl)
                   rotate_left
                   next =>
                    simp only [Act.put, List.setIfInBounds_toArray, List.set_cons_zero, List.set_cons_succ, i64_w, i32_w]; rfl
                   refine pure_ (i := 14) (N := some 76) (v := ?_) (a' := ?_) #[true, true, true, true, true, true, true, true, true, true, true, true, true, true, true, false, false, false, false, false, false, false, false, false, false, false, false, false, false, false, false, false, false, false, false, false, false, false, false, false, false, false, false, false] rfl rfl (any_of HT_.out (by kernel_rfl)) (fun _ _ _ h => h) (Or.inl ⟨by rfl, ?_⟩) ?_ ?_; rotate_left
                   next =>
                    intro w'; go_simp; (with_reducible rfl)
                   rotate_left
                   next =>
                    simp only [Act.put, List.setIfInBounds_toArray, List.set_cons_zero, List.set_cons_succ, i64_w, i32_w]; rfl
                   refine pure_ (i := 16) (N := some 78) (v := ?_) (a' := ?_) #[true, true, true, true, true, true, true, true, true, true, true, true, true, true, true, false, true, false, false, false, false, false, false, false, false, false, false, false, false, false, false, false, false, false, false, false, false, false, false, false, false, false, false, false] rfl rfl (any_of HT_.out (by kernel_rfl)) (fun _ _ _ h => h) (Or.inl ⟨by rfl, ?_⟩) ?_ ?_; rotate_left
                   next =>
                    intro w'; go_simp; (with_reducible rfl)
                   rotate_left
                   next =>
                    simp only [Act.put, List.setIfInBounds_toArray, List.set_cons_zero, List.set_cons_succ, i64_w, i32_w]; rfl
                   refine pure_ (i := 20) (N := some 82) (v := ?_) (a' := ?_) #[true, true, true, true, true, true, true, true, true, true, true, true, true, true, true, false, true, false, false, false, true, false, false, false, false, false, false, false, false, false, false, false, false, false, false, false, false, false, false, false, false, false, false, false] rfl rfl (any_of HT_.out (by kernel_rfl)) (fun _ _ _ h => h) (Or.inl ⟨by rfl, ?_⟩) ?_ ?_; rotate_left
                   next =>
                    intro w'; go_simp; (with_reducible rfl)
                   rotate_left
                   next =>
                    simp only [Act.put, List.setIfInBounds_toArray, List.set_cons_zero, List.set_cons_succ, i64_w, i32_w]; rfl
                   refine pure_ (i := 22) (N := some 84) (v := ?_) (a' := ?_) #[true, true, true, true, true, true, true, true, true, true, true, true, true, true, true, false, true, false, false, false, true, false, true, false, false, false, false, false, false, false, false, false, false, false, false, false, false, false, false, false, false, false, false, false] rfl rfl (any_of HT_.out (by kernel_rfl)) (fun _ _ _ h => h) (Or.inl ⟨by rfl, ?_⟩) ?_ ?_; rotate_left
                   next =>
                    intro w'; go_simp; (with_reducible rfl)
                   rotate_left
                   next =>
                    simp only [Act.put, List.setIfInBounds_toArray, List.set_cons_zero, List.set_cons_succ, i64_w, i32_w]; rfl
                   refine take_ (i := 15) (N := some 77) (v := ?_) (a' := ?_) #[true, true, true, true, true, true, true, true, true, true, true, true, true, true, true, true, true, false, false, false, true, false, true, false, false, false, false, false, false, false, false, false, false, false, false, false, false, false, false, false, false, false, false, false] rfl rfl (take_ofW HT_.out HW_.out (by kernel_rfl)) (fun _ _ _ h => h) (Or.inl ⟨by rfl, ?_⟩) hHeld ?_ ?_; rotate_left
                   next =>
                    rintro w' ⟨s0, s1, s2, s3, s4, s5, s6, s7, s8, s9, s10, s11, s12, s13, s14, s15, s16, s17, s18, s19⟩; go_simp; (with_reducible rfl)
                   rotate_left
                   next =>
                    simp only [Act.put, List.setIfInBounds_toArray, List.set_cons_zero, List.set_cons_succ, i64_w, i32_w]; rfl
                   refine pure_ (i := 17) (N := some 79) (v := ?_) (a' := ?_) #[true, true, true, true, true, true, true, true, true, true, true, true, true, true, true, true, true, true, false, false, true, false, true, false, false, false, false, false, false, false, false, false, false, false, false, false, false, false, false, false, false, false, false, false] rfl rfl (any_of HT_.out (by kernel_rfl)) (fun _ _ _ h => h) (Or.inl ⟨by rfl, ?_⟩) ?_ ?_; rotate_left
                   next =>
                    intro w'; go_simp; (with_reducible rfl)
                   rotate_left
                   next =>
                    simp only [Act.put, List.setIfInBounds_toArray, List.set_cons_zero, List.set_cons_succ, i64_w, i32_w]; rfl
                   refine pure_ (i := 18) (N := some 80) (v := ?_) (a' := ?_) #[true, true, true, true, true, true, true, true, true, true, true, true, true, true, true, true, true, true, true, false, true, false, true, false, false, false, false, false, false, false, false, false, false, false, false, false, false, false, false, false, false, false, false, false] rfl rfl (any_of HT_.out (by kernel_rfl)) (fun _ _ _ h => h) (Or.inl ⟨by rfl, ?_⟩) ?_ ?_; rotate_left
                   next =>
                    intro w'; go_simp; (with_reducible rfl)
                   rotate_left
                   next =>
                    simp only [Act.put, List.setIfInBounds_toArray, List.set_cons_zero, List.set_cons_succ, i64_w, i32_w]; rfl
                   refine take_ (i := 19) (N := some 81) (v := ?_) (a' := ?_) #[true, true, true, true, true, true, true, true, true, true, true, true, true, true, true, true, true, true, true, true, true, false, true, false, false, false, false, false, false, false, false, false, false, false, false, false, false, false, false, false, false, false, false, false] rfl rfl (take_ofW HT_.out HW_.out (by kernel_rfl)) (fun _ _ _ h => h) (Or.inl ⟨by rfl, ?_⟩) hHeld ?_ ?_; rotate_left
                   next =>
                    rintro w' ⟨s0, s1, s2, s3, s4, s5, s6, s7, s8, s9, s10, s11, s12, s13, s14, s15, s16, s17, s18, s19⟩; go_simp; (with_reducible rfl)
                   rotate_left
                   next =>
                    simp only [Act.put, List.setIfInBounds_toArray, List.set_cons_zero, List.set_cons_succ, i64_w, i32_w]; rfl
                   refine take_ (i := 21) (N := some 83) (v := ?_) (a' := ?_) #[true, true, true, true, true, true, true, true, true, true, true, true, true, true, true, true, true, true, true, true, true, true, true, false, false, false, false, false, false, false, false, false, false, false, false, false, false, false, false, false, false, false, false, false] rfl rfl (take_ofW HT_.out HW_.out (by kernel_rfl)) (fun _ _ _ h => h) (Or.inl ⟨by rfl, ?_⟩) hHeld ?_ ?_; rotate_left
                   next =>
                    rintro w' ⟨s0, s1, s2, s3, s4, s5, s6, s7, s8, s9, s10, s11, s12, s13, s14, s15, s16, s17, s18, s19⟩; go_simp; (with_reducible rfl)
                   rotate_left
                   next =>
                    simp only [Act.put, List.setIfInBounds_toArray, List.set_cons_zero, List.set_cons_succ, i64_w, i32_w]; rfl
                   refine pure_ (i := 23) (N := some 85) (v := ?_) (a' := ?_) #[true, true, true, true, true, true, true, true, true, true, true, true, true, true, true, true, true, true, true, true, true, true, true, true, false, false, false, false, false, false, false, false, false, false, false, false, false, false, false, false, false, false, false, false] rfl rfl (any_of HT_.out (by kernel_rfl)) (fun _ _ _ h => h) (Or.inl ⟨by rfl, ?_⟩) ?_ ?_; rotate_left
                   next =>
                    intro w'; go_simp; (with_reducible rfl)
                   rotate_left
                   next =>
                    simp only [Act.put, List.setIfInBounds_toArray, List.set_cons_zero, List.set_cons_succ, i64_w, i32_w]; rfl
                   refine pure_ (i := 24) (N := some 86) (v := ?_) (a' := ?_) #[true, true, true, true, true, true, true, true, true, true, true, true, true, true, true, true, true, true, true, true, true, true, true, true, true, false, false, false, false, false, false, false, false, false, false, false, false, false, false, false, false, false, false, false] rfl rfl (any_of HT_.out (by kernel_rfl)) (fun _ _ _ h => h) (Or.inl ⟨by rfl, ?_⟩) ?_ ?_; rotate_left
                   next =>
                    intro w'; go_simp; (with_reducible rfl)
                   rotate_left
                   next =>
                    simp only [Act.put, List.setIfInBounds_toArray, List.set_cons_zero, List.set_cons_succ, i64_w, i32_w]; rfl
                   refine take_ (i := 25) (N := some 87) (v := ?_) (a' := ?_) #[true, true, true, true, true, true, true, true, true, true, true, true, true, true, true, true, true, true, true, true, true, true, true, true, true, true, false, false, false, false, false, false, false, false, false, false, false, false, false, false, false, false, false, false] rfl rfl (take_ofW HT_.out HW_.out (by kernel_rfl)) (fun _ _ _ h => h) (Or.inl ⟨by rfl, ?_⟩) hHeld ?_ ?_; rotate_left
                   next =>
                    rintro w' ⟨s0, s1, s2, s3, s4, s5, s6, s7, s8, s9, s10, s11, s12, s13, s14, s15, s16, s17, s18, s19⟩; go_simp; (with_reducible rfl)
                   rotate_left
                   next =>
                    simp only [Act.put, List.setIfInBounds_toArray, List.set_cons_zero, List.set_cons_succ, i64_w, i32_w]; rfl
                   refine pure_ (i := 26) (N := some 88) (v := ?_) (a' := ?_) #[true, true, true, true, true, true, true, true, true, true, true, true, true, true, true, true, true, true, true, true, true, true, true, true, true, true, true, false, false, false, false, false, false, false, false, false, false, false, false, false, false, false, false, false] rfl rfl (any_of HT_.out (by kernel_rfl)) (fun _ _ _ h => h) (Or.inl ⟨by rfl, ?_⟩) ?_ ?_; rotate_left
                   next =>
                    intro w'; go_simp; (with_reducible rfl)
                   rotate_left
                   next =>
                    simp only [Act.put, List.setIfInBounds_toArray, List.set_cons_zero, List.set_cons_succ, i64_w, i32_w]; rfl
                   refine pure_ (i := 27) (N := some 89) (v := ?_) (a' := ?_) #[true, true, true, true, true, true, true, true, true, true, true, true, true, true, true, true, true, true, true, true, true, true, true, true, true, true, true, true, false, false, false, false, false, false, false, false, false, false, false, false, false, false, false, false] rfl rfl (any_of HT_.out (by kernel_rfl)) (fun _ _ _ h => h) (Or.inl ⟨by rfl, ?_⟩) ?_ ?_; rotate_left
                   next =>
                    intro w'; go_simp; (with_reducible rfl)
                   rotate_left
                   next =>
                    simp only [Act.put, List.setIfInBounds_toArray, List.set_cons_zero, List.set_cons_succ, i64_w, i32_w]; rfl
                   refine pure_ (i := 28) (N := some 90) (v := ?_) (a' := ?_) #[true, true, true, true, true, true, true, true, true, true, true, true, true, true, true, true, true, true, true, true, true, true, true, true, true, true, true, true, true, false, false, false, false, false, false, false, false, false, false, false, false, false, false, false] rfl rfl (any_of HT_.out (by kernel_rfl)) (fun _ _ _ h => h) (Or.inl ⟨by rfl, ?_⟩) ?_ ?_; rotate_left
                   next =>
                    intro w'; go_simp; (with_reducible rfl)
                   rotate_left
                   next =>
                    simp only [Act.put, List.setIfInBounds_toArray, List.set_cons_zero, List.set_cons_succ, i64_w, i32_w]; rfl
                   refine pure_ (i := 29) (N := some 91) (v := undef) (a' := ?_) #[true, true, true, true, true, true, true, true, true, true, true, true, true, true, true, true, true, true, true, true, true, true, true, true, true, true, true, true, true, true, false, false, false, false, false, false, false, false, false, false, false, false, false, false] rfl rfl (any_of HT_.out (by kernel_rfl)) (fun _ _ _ h => h) (Or.inr ⟨by rfl, rfl⟩) ?_ ?_; rotate_left
                   next =>
                    simp only [Act.put, List.setIfInBounds_toArray, List.set_cons_zero, List.set_cons_succ, i64_w, i32_w]; rfl
                   refine pure_ (i := 30) (N := some 92) (v := undef) (a' := ?_) #[true, true, true, true, true, true, true, true, true, true, true, true, true, true, true, true, true, true, true, true, true, true, true, true, true, true, true, true, true, true, true, false, false, false, false, false, false, false, false, false, false, false, false, false] rfl rfl (any_of HT_.out (by kernel_rfl)) (fun _ _ _ h => h) (Or.inr ⟨by rfl, rfl⟩) ?_ ?_; rotate_left
                   next =>
                    simp only [Act.put, List.setIfInBounds_toArray, List.set_cons_zero, List.set_cons_succ, i64_w, i32_w]; rfl
                   refine pure_ (i := 31) (N := some 93) (v := undef) (a' := ?_) #[true, true, true, true, true, true, true, true, true, true, true, true, true, true, true, true, true, true, true, true, true, true, true, true, true, true, true, true, true, true, true, true, false, false, false, false, false, false, false, false, false, false, false, false] rfl rfl (any_of HT_.out (by kernel_rfl)) (fun _ _ _ h => h) (Or.inr ⟨by rfl, rfl⟩) ?_ ?_; rotate_left
                   next =>
                    simp only [Act.put, List.setIfInBounds_toArray, List.set_cons_zero, List.set_cons_succ, i64_w, i32_w]; rfl
                   refine pure_ (i := 32) (N := some 94) (v := undef) (a' := ?_) #[true, true, true, true, true, true, true, true, true, true, true, true, true, true, true, true, true, true, true, true, true, true, true, true, true, true, true, true, true, true, true, true, true, false, false, false, false, false, false, false, false, false, false, false] rfl rfl (any_of HT_.out (by kernel_rfl)) (fun _ _ _ h => h) (Or.inr ⟨by rfl, rfl⟩) ?_ ?_; rotate_left
                   next =>
                    simp only [Act.put, List.setIfInBounds_toArray, List.set_cons_zero, List.set_cons_succ, i64_w, i32_w]; rfl
                   refine pure_ (i := 33) (N := some 95) (v := undef) (a' := ?_) #[true, true, true, true, true, true, true, true, true, true, true, true, true, true, true, true, true, true, true, true, true, true, true, true, true, true, true, true, true, true, true, true, true, true, false, false, false, false, false, false, false, false, false, false] rfl rfl (any_of HT_.out (by kernel_rfl)) (fun _ _ _ h => h) (Or.inr ⟨by rfl, rfl⟩) ?_ ?_; rotate_left
                   next =>
                    simp only [Act.put, List.setIfInBounds_toArray, List.set_cons_zero, List.set_cons_succ, i64_w, i32_w]; rfl
                   refine pure_ (i := 34) (N := some 96) (v := undef) (a' := ?_) #[true, true, true, true, true, true, true, true, true, true, true, true, true, true, true, true, true, true, true, true, true, true, true, true, true, true, true, true, true, true, true, true, true, true, true, false, false, false, false, false, false, false, false, false] rfl rfl (any_of HT_.out (by kernel_rfl)) (fun _ _ _ h => h) (Or.inr ⟨by rfl, rfl⟩) ?_ ?_; rotate_left
                   next =>
                    simp only [Act.put, List.setIfInBounds_toArray, List.set_cons_zero, List.set_cons_succ, i64_w, i32_w]; rfl
                   refine pure_ (i := 35) (N := some 97) (v := undef) (a' := ?_) #[true, true, true, true, true, true, true, true, true, true, true, true, true, true, true, true, true, true, true, true, true, true, true, true, true, true, true, true, true, true, true, true, true, true, true, true, false, false, false, false, false, false, false, false] rfl rfl (any_of HT_.out (by kernel_rfl)) (fun _ _ _ h => h) (Or.inr ⟨by rfl, rfl⟩) ?_ ?_; rotate_left
                   next =>
                    simp only [Act.put, List.setIfInBounds_toArray, List.set_cons_zero, List.set_cons_succ, i64_w, i32_w]; rfl
                   refine pure_ (i := 36) (N := some 98) (v := undef) (a' := ?_) #[true, true, true, true, true, true, true, true, true, true, true, true, true, true, true, true, true, true, true, true, true, true, true, true, true, true, true, true, true, true, true, true, true, true, true, true, true, false, false, false, false, false, false, false] rfl rfl (any_of HT_.out (by kernel_rfl)) (fun _ _ _ h => h) (Or.inr ⟨by rfl, rfl⟩) ?_ ?_; rotate_left
                   next =>
                    simp only [Act.put, List.setIfInBounds_toArray, List.set_cons_zero, List.set_cons_succ, i64_w, i32_w]; rfl
                   refine pure_ (i := 37) (N := some 99) (v := undef) (a' := ?_) #[true, true, true, true, true, true, true, true, true, true, true, true, true, true, true, true, true, true, true, true, true, true, true, true, true, true, true, true, true, true, true, true, true, true, true, true, true, true, false, false, false, false, false, false] rfl rfl (any_of HT_.out (by kernel_rfl)) (fun _ _ _ h => h) (Or.inr ⟨by rfl, rfl⟩) ?_ ?_; rotate_left
                   next =>
                    simp only [Act.put, List.setIfInBounds_toArray, List.set_cons_zero, List.set_cons_succ, i64_w, i32_w]; rfl
                   refine pure_ (i := 38) (N := some 100) (v := undef) (a' := ?_) #[true, true, true, true, true, true, true, true, true, true, true, true, true, true, true, true, true, true, true, true, true, true, true, true, true, true, true, true, true, true, true, true, true, true, true, true, true, true, true, false, false, false, false, false] rfl rfl (any_of HT_.out (by kernel_rfl)) (fun _ _ _ h => h) (Or.inr ⟨by rfl, rfl⟩) ?_ ?_; rotate_left
                   next =>
                    simp only [Act.put, List.setIfInBounds_toArray, List.set_cons_zero, List.set_cons_succ, i64_w, i32_w]; rfl
                   refine pure_ (i := 39) (N := some 101) (v := undef) (a' := ?_) #[true, true, true, true, true, true, true, true, true, true, true, true, true, true, true, true, true, true, true, true, true, true, true, true, true, true, true, true, true, true, true, true, true, true, true, true, true, true, true, true, false, false, false, false] rfl rfl (any_of HT_.out (by kernel_rfl)) (fun _ _ _ h => h) (Or.inr ⟨by rfl, rfl⟩) ?_ ?_; rotate_left
                   next =>
                    simp only [Act.put, List.setIfInBounds_toArray, List.set_cons_zero, List.set_cons_succ, i64_w, i32_w]; rfl
                   refine pure_ (i := 40) (N := some 102) (v := undef) (a' := ?_) #[true, true, true, true, true, true, true, true, true, true, true, true, true, true, true, true, true, true, true, true, true, true, true, true, true, true, true, true, true, true, true, true, true, true, true, true, true, true, true, true, true, false, false, false] rfl rfl (any_of HT_.out (by kernel_rfl)) (fun _ _ _ h => h) (Or.inr ⟨by rfl, rfl⟩) ?_ ?_; rotate_left
                   next =>
                    simp only [Act.put, List.setIfInBounds_toArray, List.set_cons_zero, List.set_cons_succ, i64_w, i32_w]; rfl
                   refine pure_ (i := 41) (N := some 103) (v := undef) (a' := ?_) #[true, true, true, true, true, true, true, true, true, true, true, true, true, true, true, true, true, true, true, true, true, true, true, true, true, true, true, true, true, true, true, true, true, true, true, true, true, true, true, true, true, true, false, false] rfl rfl (any_of HT_.out (by kernel_rfl)) (fun _ _ _ h => h) (Or.inr ⟨by rfl, rfl⟩) ?_ ?_; rotate_left
                   next =>
                    simp only [Act.put, List.setIfInBounds_toArray, List.set_cons_zero, List.set_cons_succ, i64_w, i32_w]; rfl
                   refine pure_ (i := 42) (N := some 104) (v := undef) (a' := ?_) #[true, true, true, true, true, true, true, true, true, true, true, true, true, true, true, true, true, true, true, true, true, true, true, true, true, true, true, true, true, true, true, true, true, true, true, true, true, true, true, true, true, true, true, false] rfl rfl (any_of HT_.out (by kernel_rfl)) (fun _ _ _ h => h) (Or.inr ⟨by rfl, rfl⟩) ?_ ?_; rotate_left
                   next =>
                    simp only [Act.put, List.setIfInBounds_toArray, List.set_cons_zero, List.set_cons_succ, i64_w, i32_w]; rfl
                   refine pure_ (i := 43) (N := some 105) (v := ?_) (a' := ?_) #[true, true, true, true, true, true, true, true, true, true, true, true, true, true, true, true, true, true, true, true, true, true, true, true, true, true, true, true, true, true, true, true, true, true, true, true, true, true, true, true, true, true, true, true] rfl rfl (any_of HT_.out (by kernel_rfl)) (fun _ _ _ h => h) (Or.inl ⟨by rfl, ?_⟩) ?_ ?_; rotate_left
                   next =>
                    intro w'; go_simp; (with_reducible rfl)
                   rotate_left
                   next =>
                    simp only [Act.put, List.setIfInBounds_toArray, List.set_cons_zero, List.set_cons_succ, i64_w, i32_w]; rfl
                   refine done_ (done_of HT_.out (by kernel_rfl)) ?_; (try go_wp2); go_ret; exact ⟨z29q13, z29q1⟩
                 next => as_aux_lemma =>
                  rw [if_neg c50] at H; have c50b0 : (((rd_T91 ((rd_T89 l0_0 x5_2).f1) x8_4).f0) == ((rd_T91 ((rd_T89 l1_0 x5_2).f1) x8_4).f0)) = false := beq_eq_false_iff_ne.mpr c50; have c50b1 : (((rd_T91 ((rd_T89 l0_0 x5_2).f1) x8_4).f0) != ((rd_T91 ((rd_T89 l1_0 x5_2).f1) x8_4).f0)) = true := bne_iff_ne.mpr c50; obtain rfl := Option.some.inj H; have hnb71 := NB187_183.out; have hnc71 := NB183_187.out; have hnb72 := NB187_184.out; have hnc72 := NB184_187.out; have hnb73 := NB187_189.out; have hnc73 := NB189_187.out; obtain ⟨hcz74_0, hcz74_1, hfz74_0, hfz74_1⟩ := cellsF2 BK187.out; (try go_wp2); have n0_ := Aside0.mk (blk_drew BK183.out); have n1_ := Aside0.mk (blk_drew BK184.out); have n2_ := Aside0.mk (blk_drew BK187.out); have n3_ := Aside0.mk (blk_drew BK189.out); have n4_ := Aside0.mk (below_drew1 HB.out); clear BK183; clear BK184; clear BK187; clear BK189; clear HB; have BK183 := n0_; have BK184 := n1_; have BK187 := n2_; have BK189 := n3_; have HB := n4_; clear n0_ n1_ n2_ n3_ n4_; have p190 : 0 ≤ (x8_4 : Int) := of_decide_eq_true z29q2; have q190 : x8_4 < (((rd_T89 l0_0 x5_2).f1).length : Int) := of_decide_eq_true z29q2; obtain ⟨ad190, A190_2, c190_2, A190_3, c190_3, e190, hx190_0, hx190_1, hx190_2, hx190_3, hl190_2, hi190_2, hl190_3, hi190_3⟩ := at_T91 HR186_1.out x8_4 p190 q190; have hw190_3 := hx190_3; have hw190_2 := hx190_2; have hw190_1 := hx190_1; have hw190_0 := hx190_0; cases e190; replace hx190_0 := cellB HB.out hx190_0; replace hx190_1 := cellB HB.out hx190_1; replace hx190_2 := cellB HB.out hx190_2; replace hx190_3 := cellB HB.out hx190_3; have HR190_2 := Aside0.mk hi190_2; have HC190_2 := Aside0.mk hl190_2; clear hi190_2 hl190_2; have HR190_3 := Aside0.mk hi190_3; have HC190_3 := Aside0.mk hl190_3; clear hi190_3 hl190_3; replace p190 := eq_true p190; replace q190 := eq_true q190; have p191 : 0 ≤ (x8_4 : Int) := of_decide_eq_true z29q2; have q191 : x8_4 < (((rd_T89 l1_0 x5_2).f1).length : Int) := of_decide_eq_true z29q2; obtain ⟨ad191, A191_2, c191_2, A191_3, c191_3, e191, hx191_0, hx191_1, hx191_2, hx191_3, hl191_2, hi191_2, hl191_3, hi191_3⟩ := at_T91 HR188_1.out x8_4 p191 q191; have hw191_3 := hx191_3; have hw191_2 := hx191_2; have hw191_1 := hx191_1; have hw191_0 := hx191_0; cases e191; replace hx191_0 := cellB HB.out hx191_0; replace hx191_1 := cellB HB.out hx191_1; replace hx191_2 := cellB HB.out hx191_2; replace hx191_3 := cellB HB.out hx191_3; have HR191_2 := Aside0.mk hi191_2; have HC191_2 := Aside0.mk hl191_2; clear hi191_2 hl191_2; have HR191_3 := Aside0.mk hi191_3; have HC191_3 := Aside0.mk hl191_3; clear hi191_3 hl191_3; replace p191 := eq_true p191; replace q191 := eq_true q191; refine start_ (n := 44) (S := fun w' => w'.cell? ⟨gb187, 0, none⟩ = some (.int .i64 ((rd_T89 l0_0 x5_2).f0)) ∧ w'.cell? ⟨gb187, 1, none⟩ = some (.slice (some ad190) ((rd_T89 l0_0 x5_2).f1).length c186_1) ∧ w'.cell? ⟨gb189, 0, none⟩ = some (.int .i64 ((rd_T89 l1_0 x5_2).f0)) ∧ w'.cell? ⟨gb189, 1, none⟩ = some (.slice (some ad191) ((rd_T89 l1_0 x5_2).f1).length c188_1) ∧ w'.cell? (ad190.add ((x8_4).toNat * 4)) = some (.int .i64 ((rd_T91 ((rd_T89 l0_0 x5_2).f1) x8_4).f0)) ∧ w'.cell? ⟨(ad190.add ((x8_4).toNat * 4)).block, (ad190.add ((x8_4).toNat * 4)).off + 1, none⟩ = some (.string ((rd_T91 ((rd_T89 l0_0 x5_2).f1) x8_4).f1)) ∧ w'.cell? ⟨(ad190.add ((x8_4).toNat * 4)).block, (ad190.add ((x8_4).toNat * 4)).off + 2, none⟩ = some (.slice A190_2 ((rd_T91 ((rd_T89 l0_0 x5_2).f1) x8_4).f2.f0).length c190_2) ∧ w'.cell? ⟨(ad190.add ((x8_4).toNat * 4)).block, (ad190.add ((x8_4).toNat * 4)).off + 3, none⟩ = some (.slice A190_3 ((rd_T91 ((rd_T89 l0_0 x5_2).f1) x8_4).f2.f1).length c190_3) ∧ w'.cell? (ad191.add ((x8_4).toNat * 4)) = some (.int .i64 ((rd_T91 ((rd_T89 l1_0 x5_2).f1) x8_4).f0)) ∧ w'.cell? ⟨(ad191.add ((x8_4).toNat * 4)).block, (ad191.add ((x8_4).toNat * 4)).off + 1, none⟩ = some (.string ((rd_T91 ((rd_T89 l1_0 x5_2).f1) x8_4).f1)) ∧ w'.cell? ⟨(ad191.add ((x8_4).toNat * 4)).block, (ad191.add ((x8_4).toNat * 4)).off + 2, none⟩ = some (.slice A191_2 ((rd_T91 ((rd_T89 l1_0 x5_2).f1) x8_4).f2.f0).length c191_2) ∧ w'.cell? ⟨(ad191.add ((x8_4).toNat * 4)).block, (ad191.add ((x8_4).toNat * 4)).off + 3, none⟩ = some (.slice A191_3 ((rd_T91 ((rd_T89 l1_0 x5_2).f1) x8_4).f2.f1).length c191_3)) (ds := []) #[false, false, false, false, false, false, false, false, false, false, false, false, false, false, false, false, false, false, false, false, false, false, false, false, false, false, false, false, false, false, false, false, false, false, false, false, false, false, false, false, false, false, false, false] (by kernel_rfl) rfl rfl ⟨(blk_cell BK187.out 0).trans rfl, (blk_cell BK187.out 1).trans rfl, (blk_cell BK189.out 0).trans rfl, (blk_cell BK189.out 1).trans rfl, (cellB HB.out hw190_0), (cellB HB.out hw190_1), (cellB HB.out hw190_2), (cellB HB.out hw190_3), (cellB HB.out hw191_0), (cellB HB.out hw191_1), (cellB HB.out hw191_2), (cellB HB.out hw191_3)⟩ (fun hHeld => ?_); refine with_tabW spec_SameMsg.tab13 spec_SameMsg.bits13 (fun HT_ HW_ => ?_); generalize wr.drew = w75 at BK183 BK184 BK187 BK189 HB HR190_2 HR190_3 HR191_2 HR191_3 hx190_0 hx190_1 hx190_2 hx190_3 hx191_0 hx191_1 hx191_2 hx191_3 hHeld ⊢; refine pure_ (i := 0) (N := some 62) (v := ?_) (a' := ?_) #[true, false, false, false, false, false, false, false, false, false, false, false, false, false, false, false, false, false, false, false, false, false, false, false, false, false, false, false, false, false, false, false, false, false, false, false, false, false, false, false, false, false, false, false] rfl rfl (any_of HT_.out (by kernel_rfl)) (fun _ _ _ h => h) (Or.inl ⟨by rfl, ?_⟩) ?_ ?_; rotate_left
                  next =>
                   intro w'; go_simp; (with_reducible rfl)
                  rotate_left
                  next =>
                   simp only [Act.put, List.setIfInBounds_toArray, List.set_cons_zero, List.set_cons_succ, i64_w, i32_w]; rfl
                  refine pure_ (i := 2) (N := some 64) (v := ?_) (a' := ?_) #[true, false, true, false, false, false, false, false, false, false, false, false, false, false, false, false, false, false, false, false, false, false, false, false, false, false, false, false, false, false, false, false, false, false, false, false, false, false, false, false, false, false, false, false] rfl rfl (any_of HT_.out (by kernel_rfl)) (fun _ _ _ h => h) (Or.inl ⟨by rfl, ?_⟩) ?_ ?_; rotate_left
                  next =>
                   intro w'; go_simp; (with_reducible rfl)
                  rotate_left
                  next =>
                   simp only [Act.put, List.setIfInBounds_toArray, List.set_cons_zero, List.set_cons_succ, i64_w, i32_w]; rfl
                  refine pure_ (i := 6) (N := some 68) (v := ?_) (a' := ?_) #[true, false, true, false, false, false, true, false, false, false, false, false, false, false, false, false, false, false, false, false, false, false, false, false, false, false, false, false, false, false, false, false, false, false, false, false, false, false, false, false, false, false, false, false] rfl rfl (any_of HT_.out (by kernel_rfl)) (fun _ _ _ h => h) (Or.inl ⟨by rfl, ?_⟩) ?_ ?_; rotate_left
                  next =>
                   intro w'; go_simp; (with_reducible rfl)
                  rotate_left
                  next =>
                   simp only [Act.put, List.setIfInBounds_toArray, List.set_cons_zero, List.set_cons_succ, i64_w, i32_w]; rfl
                  refine pure_ (i := 8) (N := some 70) (v := ?_) (a' := ?_) #[true, false, true, false, false, false, true, false, true, false, false, false, false, false, false, false, false, false, false, false, false, false, false, false, false, false, false, false, false, false, false, false, false, false, false, false, false, false, false, false, false, false, false, false] rfl rfl (any_of HT_.out (by kernel_rfl)) (fun _ _ _ h => h) (Or.inl ⟨by rfl, ?_⟩) ?_ ?_; rotate_left
                  next =>
                   intro w'; go_simp; (with_reducible rfl)
                  rotate_left
                  next =>
                   simp only [Act.put, List.setIfInBounds_toArray, List.set_cons_zero, List.set_cons_succ, i64_w, i32_w]; rfl
                  refine take_ (i := 1) (N := some 63) (v := ?_) (a' := ?_) #[true, true, true, false, false, false, true, false, true, false, false, false, false, false, false, false, false, false, false, false, false, false, false, false, false, false, false, false, false, false, false, false, false, false, false, false, false, false, false, false, false, false, false, false] rfl rfl (take_ofW HT_.out HW_.out (by kernel_rfl)) (fun _ _ _ h => h) (Or.inl ⟨by rfl, ?_⟩) hHeld ?_ ?_; rotate_left
                  next =>
                   rintro w' ⟨s0, s1, s2, s3, s4, s5, s6, s7, s8, s9, s10, s11⟩; go_simp; (with_reducible rfl)
                  rotate_left
                  next =>
                   simp only [Act.put, List.setIfInBounds_toArray, List.set_cons_zero, List.set_cons_succ, i64_w, i32_w]; rfl
                  refine pure_ (i := 3) (N := some 65) (v := ?_) (a' := ?_) #[true, true, true, true, false, false, true, false, true, false, false, false, false, false, false, false, false, false, false, false, false, false, false, false, false, false, false, false, false, false, false, false, false, false, false, false, false, false, false, false, false, false, false, false] rfl rfl (any_of HT_.out (by kernel_rfl)) (fun _ _ _ h => h) (Or.inl ⟨by rfl, ?_⟩) ?_ ?_; rotate_left
                  next =>
                   intro w'; go_simp; (with_reducible rfl)
                  rotate_left
                  next =>
                   simp only [Act.put, List.setIfInBounds_toArray, List.set_cons_zero, List.set_cons_succ, i64_w, i32_w]; rfl
                  refine pure_ (i := 4) (N := some 66) (v := ?_) (a' := ?_) #[true, true, true, true, true, false, true, false, true, false, false, false, false, false, false, false, false, false, false, false, false, false, false, false, false, false, false, false, false, false, false, false, false, false, false, false, false, false, false, false, false, false, false, false] rfl rfl (any_of HT_.out (by kernel_rfl)) (fun _ _ _ h => h) (Or.inl ⟨by rfl, ?_⟩) ?_ ?_; rotate_left
                  next =>
                   intro w'; go_simp; (with_reducible rfl)
                  rotate_left
                  next =>
                   simp only [Act.put, List.setIfInBounds_toArray, List.set_cons_zero, List.set_cons_succ, i64_w, i32_w]; rfl
                  refine take_ (i := 5) (N := some 67) (v := ?_) (a' := ?_) #[true, true, true, true, true, true, true, false, true, false, false, false, false, false, false, false, false, false, false, false, false, false, false, false, false, false, false, false, false, false, false, false, false, false, false, false, false, false, false, false, false, false, false, false] rfl rfl (take_ofW HT_.out HW_.out (by kernel_rfl)) (fun _ _ _ h => h) (Or.inl ⟨by rfl, ?_⟩) hHeld ?_ ?_; rotate_left
                  next =>
                   rintro w' ⟨s0, s1, s2, s3, s4, s5, s6, s7, s8, s9, s10, s11⟩; go_simp; (with_reducible rfl)
                  rotate_left
                  next =>
                   simp only [Act.put, List.setIfInBounds_toArray, List.set_cons_zero, List.set_cons_succ, i64_w, i32_w]; rfl
                  refine take_ (i := 7) (N := some 69) (v := ?_) (a' := ?_) #[true, true, true, true, true, true, true, true, true, false, false, false, false, false, false, false, false, false, false, false, false, false, false, false, false, false, false, false, false, false, false, false, false, false, false, false, false, false, false, false, false, false, false, false] rfl rfl (take_ofW HT_.out HW_.out (by kernel_rfl)) (fun _ _ _ h => h) (Or.inl ⟨by rfl, ?_⟩) hHeld ?_ ?_; rotate_left
                  next =>
                   rintro w' ⟨s0, s1, s2, s3, s4, s5, s6, s7, s8, s9, s10, s11⟩; go_simp; (with_reducible rfl)
                  rotate_left
                  next =>
                   simp only [Act.put, List.setIfInBounds_toArray, List.set_cons_zero, List.set_cons_succ, i64_w, i32_w]; rfl
                  refine pure_ (i := 9) (N := some 71) (v := ?_) (a' := ?_) #[true, true, true, true, true, true, true, true, true, true, false, false, false, false, false, false, false, false, false, false, false, false, false, false, false, false, false, false, false, false, false, false, false, false, false, false, false, false, false, false, false, false, false, false] rfl rfl (any_of HT_.out (by kernel_rfl)) (fun _ _ _ h => h) (Or.inl ⟨by rfl, ?_⟩) ?_ ?_; rotate_left
                  next =>
                   intro w'; go_simp; (with_reducible rfl)
                  rotate_left
                  next =>
                   simp only [Act.put, List.setIfInBounds_toArray, List.set_cons_zero, List.set_cons_succ, i64_w, i32_w]; rfl
                  refine pure_ (i := 10) (N := some 72) (v := ?_) (a' := ?_) #[true, true, true, true, true, true, true, true, true, true, true, false, false, false, false, false, false, false, false, false, false, false, false, false, false, false, false, false, false, false, false, false, false, false, false, false, false, false, false, false, false, false, false, false] rfl rfl (any_of HT_.out (by kernel_rfl)) (fun _ _ _ h => h) (Or.inl ⟨by rfl, ?_⟩) ?_ ?_; rotate_left
                  next =>
                   intro w'; go_simp; (with_reducible rfl)
                  rotate_left
                  next =>
                   simp only [Act.put, List.setIfInBounds_toArray, List.set_cons_zero, List.set_cons_succ, i64_w, i32_w]; rfl
                  refine take_ (i := 11) (N := some 73) (v := ?_) (a' := ?_) #[true, true, true, true, true, true, true, true, true, true, true, true, false, false, false, false, false, false, false, false, false, false, false, false, false, false, false, false, false, false, false, false, false, false, false, false, false, false, false, false, false, false, false, false] rfl rfl (take_ofW HT_.out HW_.out (by kernel_rfl)) (fun _ _ _ h => h) (Or.inl ⟨by rfl, ?_⟩) hHeld ?_ ?_; rotate_left
                  next =>
                   rintro w' ⟨s0, s1, s2, s3, s4, s5, s6, s7, s8, s9, s10, s11⟩; go_simp; (with_reducible rfl)
                  rotate_left
                  next =>
                   simp only [Act.put, List.setIfInBounds_toArray, List.set_cons_zero, List.set_cons_succ, i64_w, i32_w]; rfl
                  refine pure_ (i := 12) (N := some 74) (v := ?_) (a' := ?_) #[true, true, true, true, true, true, true, true, true, true, true, true, true, false, false, false, false, false, false, false, false, false, false, false, false, false, false, false, false, false, false, false, false, false, false, false, false, false, false, false, false, false, false, false] rfl rfl (any_of HT_.out (by kernel_rfl)) (fun _ _ _ h => h) (Or.inl ⟨by rfl, ?_⟩) ?_ ?_; rotate_left
                  next =>
                   intro w'; go_simp; (with_reducible rfl)
                  rotate_left
                  next =>
                   simp only [Act.put, List.setIfInBounds_toArray, List.set_cons_zero, List.set_cons_succ, i64_w, i32_w]; rfl
                  refine pure_ (i := 13) (N := some 75) (v := ?_) (a' := ?_) #[true, true, true, true, true, true, true, true, true, true, true, true, true, true, false, false, false, false, false, false, false, false, false, false, false, false, false, false, false, false, false, false, false, false, false, false, false, false, false, false, false, false, false, false] rfl rfl (any_of HT_.out (by kernel_rfl)) (fun _ _ _ h => h) (Or.inl ⟨by rfl, ?_⟩) ?_ ?_; rotate_left
                  next =>
                   intro w'; go_simp; (with_reducible rfl)
                  rotate_left
                  next =>
                   simp only [Act.put, List.setIfInBounds_toArray, List.set_cons_zero, List.set_cons_succ, i64_w, i32_w]; rfl
                  refine pure_ (i := 14) (N := some 76) (v := undef) (a' := ?_) #[true, true, true, true, true, true, true, true, true, true, true, true, true, true, true, false, false, false, false, false, false, false, false, false, false, false, false, false, false, false, false, false, false, false, false, false, false, false, false, false, false, false, false, false] rfl rfl (any_of HT_.out (by kernel_rfl)) (fun _ _ _ h => h) (Or.inr ⟨by rfl, rfl⟩) ?_ ?_; rotate_left
                  next =>
                   simp only [Act.put, List.setIfInBounds_toArray, List.set_cons_zero, List.set_cons_succ, i64_w, i32_w]; rfl
                  refine pure_ (i := 15) (N := some 77) (v := undef) (a' := ?_) #[true, true, true, true, true, true, true, true, true, true, true, true, true, true, true, true, false, false, false, false, false, false, false, false, false, false, false, false, false, false, false, false, false, false, false, false, false, false, false, false, false, false, false, false] rfl rfl (any_of HT_.out (by kernel_rfl)) (fun _ _ _ h => h) (Or.inr ⟨by rfl, rfl⟩) ?_ ?_; rotate_left
                  next =>
                   simp only [Act.put, List.setIfInBounds_toArray, List.set_cons_zero, List.set_cons_succ, i64_w, i32_w]; rfl
                  refine pure_ (i := 16) (N := some 78) (v := undef) (a' := ?_) #[true, true, true, true, true, true, true, true, true, true, true, true, true, true, true, true, true, false, false, false, false, false, false, false, false, false, false, false, false, false, false, false, false, false, false, false, false, false, false, false, false, false, false, false] rfl rfl (any_of HT_.out (by kernel_rfl)) (fun _ _ _ h => h) (Or.inr ⟨by rfl, rfl⟩) ?_ ?_; rotate_left
                  next =>
                   simp only [Act.put, List.setIfInBounds_toArray, List.set_cons_zero, List.set_cons_succ, i64_w, i32_w]; rfl
                  refine pure_ (i := 17) (N := some 79) (v := undef) (a' := ?_) #[true, true, true, true, true, true, true, true, true, true, true, true, true, true, true, true, true, true, false, false, false, false, false, false, false, false, false, false, false, false, false, false, false, false, false, false, false, false, false, false, false, false, false, false] rfl rfl (any_of HT_.out (by kernel_rfl)) (fun _ _ _ h => h) (Or.inr ⟨by rfl, rfl⟩) ?_ ?_; rotate_left
                  next =>
                   simp only [Act.put, List.setIfInBounds_toArray, List.set_cons_zero, List.set_cons_succ, i64_w, i32_w]; rfl
                  refine pure_ (i := 18) (N := some 80) (v := undef) (a' := ?_) #[true, true, true, true, true, true, true, true, true, true, true, true, true, true, true, true, true, true, true, false, false, false, false, false, false, false, false, false, false, false, false, false, false, false, false, false, false, false, false, false, false, false, false, false] rfl rfl (any_of HT_.out (by kernel_rfl)) (fun _ _ _ h => h) (Or.inr ⟨by rfl, rfl⟩) ?_ ?_; rotate_left
                  next =>
                   simp only [Act.put, List.setIfInBounds_toArray, List.set_cons_zero, List.set_cons_succ, i64_w, i32_w]; rfl
                  refine pure_ (i := 19) (N := some 81) (v := undef) (a' := ?_) #[true, true, true, true, true, true, true, true, true, true, true, true, true, true, true, true, true, true, true, true, false, false, false, false, false, false, false, false, false, false, false, false, false, false, false, false, false, false, false, false, false, false, false, false] rfl rfl (any_of HT_.out (by kernel_rfl)) (fun _ _ _ h => h) (Or.inr ⟨by rfl, rfl⟩) ?_ ?_; rotate_left
                  next =>
                   simp only [Act.put, List.setIfInBounds_toArray, List.set_cons_zero, List.set_cons_succ, i64_w, i32_w]; rfl
                  refine pure_ (i := 20) (N := some 82) (v := undef) (a' := ?_) #[true, true, true, true, true, true, true, true, true, true, true, true, true, true, true, true, true, true, true, true, true, false, false, false, false, false, false, false, false, false, false, false, false, false, false, false, false, false, false, false, false, false, false, false] rfl rfl (any_of HT_.out (by kernel_rfl)) (fun _ _ _ h => h) (Or.inr ⟨by rfl, rfl⟩) ?_ ?_; rotate_left
                  next =>
                   simp only [Act.put, List.setIfInBounds_toArray, List.set_cons_zero, List.set_cons_succ, i64_w, i32_w]; rfl
                  refine pure_ (i := 21) (N := some 83) (v := undef) (a' := ?_) #[true, true, true, true, true, true, true, true, true, true, true, true, true, true, true, true, true, true, true, true, true, true, false, false, false, false, false, false, false, false, false, false, false, false, false, false, false, false, false, false, false, false, false, false] rfl rfl (any_of HT_.out (by kernel_rfl)) (fun _ _ _ h => h) (Or.inr ⟨by rfl, rfl⟩) ?_ ?_; rotate_left
                  next =>
                   simp only [Act.put, List.setIfInBounds_toArray, List.set_cons_zero, List.set_cons_succ, i64_w, i32_w]; rfl
                  refine pure_ (i := 22) (N := some 84) (v := undef) (a' := ?_) #[true, true, true, true, true, true, true, true, true, true, true, true, true, true, true, true, true, true, true, true, true, true, true, false, false, false, false, false, false, false, false, false, false, false, false, false, false, false, false, false, false, false, false, false] rfl rfl (any_of HT_.out (by kernel_rfl)) (fun _ _ _ h => h) (Or.inr ⟨by rfl, rfl⟩) ?_ ?_; rotate_left
                  next =>
                   simp only [Act.put, List.setIfInBounds_toArray, List.set_cons_zero, List.set_cons_succ, i64_w, i32_w]; rfl
                  refine pure_ (i := 23) (N := some 85) (v := undef) (a' := ?_) #[true, true, true, true, true, true, true, true, true, true, true, true, true, true, true, true, true, true, true, true, true, true, true, true, false, false, false, false, false, false, false, false, false, false, false, false, false, false, false, false, false, false, false, false] rfl rfl (any_of HT_.out (by kernel_rfl)) (fun _ _ _ h => h) (Or.inr ⟨by rfl, rfl⟩) ?_ ?_; rotate_left
                  next =>
                   simp only [Act.put, List.setIfInBounds_toArray, List.set_cons_zero, List.set_cons_succ, i64_w, i32_w]; rfl
                  refine pure_ (i := 24) (N := some 86) (v := undef) (a' := ?_) #[true, true, true, true, true, true, true, true, true, true, true, true, true, true, true, true, true, true, true, true, true, true, true, true, true, false, false, false, false, false, false, false, false, false, false, false, false, false, false, false, false, false, false, false] rfl rfl (any_of HT_.out (by kernel_rfl)) (fun _ _ _ h => h) (Or.inr ⟨by rfl, rfl⟩) ?_ ?_; rotate_left
                  next =>
                   simp only [Act.put, List.setIfInBounds_toArray, List.set_cons_zero, List.set_cons_succ, i64_w, i32_w]; rfl
                  refine pure_ (i := 25) (N := some 87) (v := undef) (a' := ?_) #[true, true, true, true, true, true, true, true, true, true, true, true, true, true, true, true, true, true, true, true, true, true, true, true, true, true, false, false, false, false, false, false, false, false, false, false, false, false, false, false, false, false, false, false] rfl rfl (any_of HT_.out (by kernel_rfl)) (fun _ _ _ h => h) (Or.inr ⟨by rfl, rfl⟩) ?_ ?_; rotate_left
                  next =>
                   simp only [Act.put, List.setIfInBounds_toArray, List.set_cons_zero, List.set_cons_succ, i64_w, i32_w]; rfl
                  refine pure_ (i := 26) (N := some 88) (v := undef) (a' := ?_) #[true, true, true, true, true, true, true, true, true, true, true, true, true, true, true, true, true, true, true, true, true, true, true, true, true, true, true, false, false, false, false, false, false, false, false, false, false, false, false, false, false, false, false, false] rfl rfl (any_of HT_.out (by kernel_rfl)) (fun _ _ _ h => h) (Or.inr ⟨by rfl, rfl⟩) ?_ ?_; rotate_left
                  next =>
                   simp only [Act.put, List.setIfInBounds_toArray, List.set_cons_zero, List.set_cons_succ, i64_w, i32_w]; rfl
                  refine pure_ (i := 27) (N := some 89) (v := ?_) (a' := ?_) #[true, true, true, true, true, true, true, true, true, true, true, true, true, true, true, true, true, true, true, true, true, true, true, true, true, true, true, true, false, false, false, false, false, false, false, false, false, false, false, false, false, false, false, false] rfl rfl (any_of HT_.out (by kernel_rfl)) (fun _ _ _ h => h) (Or.inl ⟨by rfl, ?_⟩) ?_ ?_; rotate_left
                  next =>
                   intro w'; go_simp; (with_reducible rfl)
                  rotate_left
                  next =>
                   simp only [Act.put, List.setIfInBounds_toArray, List.set_cons_zero, List.set_cons_succ, i64_w, i32_w]; rfl
                  refine pure_ (i := 28) (N := some 90) (v := ?_) (a' := ?_) #[true, true, true, true, true, true, true, true, true, true, true, true, true, true, true, true, true, true, true, true, true, true, true, true, true, true, true, true, true, false, false, false, false, false, false, false, false, false, false, false, false, false, false, false] rfl rfl (any_of HT_.out (by kernel_rfl)) (fun _ _ _ h => h) (Or.inl ⟨by rfl, ?_⟩) ?_ ?_; rotate_left
                  next =>
                   intro w'; go_simp; (with_reducible rfl)
                  rotate_left
                  next =>
                   simp only [Act.put, List.setIfInBounds_toArray, List.set_cons_zero, List.set_cons_succ, i64_w, i32_w]; rfl
                  refine pure_ (i := 29) (N := some 91) (v := undef) (a' := ?_) #[true, true, true, true, true, true, true, true, true, true, true, true, true, true, true, true, true, true, true, true, true, true, true, true, true, true, true, true, true, true, false, false, false, false, false, false, false, false, false, false, false, false, false, false] rfl rfl (any_of HT_.out (by kernel_rfl)) (fun _ _ _ h => h) (Or.inr ⟨by rfl, rfl⟩) ?_ ?_; rotate_left
                  next =>
                   simp only [Act.put, List.setIfInBounds_toArray, List.set_cons_zero, List.set_cons_succ, i64_w, i32_w]; rfl
                  refine pure_ (i := 30) (N := some 92) (v := undef) (a' := ?_) #[true, true, true, true, true, true, true, true, true, true, true, true, true, true, true, true, true, true, true, true, true, true, true, true, true, true, true, true, true, true, true, false, false, false, false, false, false, false, false, false, false, false, false, false] rfl rfl (any_of HT_.out (by kernel_rfl)) (fun _ _ _ h => h) (Or.inr ⟨by rfl, rfl⟩) ?_ ?_; rotate_left
                  next =>
                   simp only [Act.put, List.setIfInBounds_toArray, List.set_cons_zero, List.set_cons_succ, i64_w, i32_w]; rfl
                  refine pure_ (i := 31) (N := some 93) (v := undef) (a' := ?_) #[true, true, true, true, true, true, true, true, true, true, true, true, true, true, true, true, true, true, true, true, true, true, true, true, true, true, true, true, true, true, true, true, false, false, false, false, false, false, false, false, false, false, false, false] rfl rfl (any_of HT_.out (by kernel_rfl)) (fun _ _ _ h => h) (Or.inr ⟨by rfl, rfl⟩) ?_ ?_; rotate_left
                  next =>
                   simp only [Act.put, List.setIfInBounds_toArray, List.set_cons_zero, List.set_cons_succ, i64_w, i32_w]; rfl
                  refine pure_ (i := 32) (N := some 94) (v := undef) (a' := ?_) #[true, true, true, true, true, true, true, true, true, true, true, true, true, true, true, true, true, true, true, true, true, true, true, true, true, true, true, true, true, true, true, true, true, false, false, false, false, false, false, false, false, false, false, false] rfl rfl (any_of HT_.out (by kernel_rfl)) (fun _ _ _ h => h) (Or.inr ⟨by rfl, rfl⟩) ?_ ?_; rotate_left
                  next =>
                   simp only [Act.put, List.setIfInBounds_toArray, List.set_cons_zero, List.set_cons_succ, i64_w, i32_w]; rfl
                  refine pure_ (i := 33) (N := some 95) (v := undef) (a' := ?_) #[true, true, true, true, true, true, true, true, true, true, true, true, true, true, true, true, true, true, true, true, true, true, true, true, true, true, true, true, true, true, true, true, true, true, false, false, false, false, false, false, false, false, false, false] rfl rfl (any_of HT_.out (by kernel_rfl)) (fun _ _ _ h => h) (Or.inr ⟨by rfl, rfl⟩) ?_ ?_; rotate_left
                  next =>
                   simp only [Act.put, List.setIfInBounds_toArray, List.set_cons_zero, List.set_cons_succ, i64_w, i32_w]; rfl
                  refine pure_ (i := 34) (N := some 96) (v := undef) (a' := ?_) #[true, true, true, true, true, true, true, true, true, true, true, true, true, true, true, true, true, true, true, true, true, true, true, true, true, true, true, true, true, true, true, true, true, true, true, false, false, false, false, false, false, false, false, false] rfl rfl (any_of HT_.out (by kernel_rfl)) (fun _ _ _ h => h) (Or.inr ⟨by rfl, rfl⟩) ?_ ?_; rotate_left
                  next =>
                   simp only [Act.put, List.setIfInBounds_toArray, List.set_cons_zero, List.set_cons_succ, i64_w, i32_w]; rfl
                  refine pure_ (i := 35) (N := some 97) (v := undef) (a' := ?_) #[true, true, true, true, true, true, true, true, true, true, true, true, true, true, true, true, true, true, true, true, true, true, true, true, true, true, true, true, true, true, true, true, true, true, true, true, false, false, false, false, false, false, false, false] rfl rfl (any_of HT_.out (by kernel_rfl)) (fun _ _ _ h => h) (Or.inr ⟨by rfl, rfl⟩) ?_ ?_; rotate_left
                  next =>
                   simp only [Act.put, List.setIfInBounds_toArray, List.set_cons_zero, List.set_cons_succ, i64_w, i32_w]; rfl
                  refine pure_ (i := 36) (N := some 98) (v := undef) (a' := ?_) #[true, true, true, true, true, true, true, true, true, true, true, true, true, true, true, true, true, true, true, true, true, true, true, true, true, true, true, true, true, true, true, true, true, true, true, true, true, false, false, false, false, false, false, false] rfl rfl (any_of HT_.out (by kernel_rfl)) (fun _ _ _ h => h) (Or.inr ⟨by rfl, rfl⟩) ?_ ?_; rotate_left
                  next =>
                   simp only [Act.put, List.setIfInBounds_toArray, List.set_cons_zero, List.set_cons_succ, i64_w, i32_w]; rfl
                  refine pure_ (i := 37) (N := some 99) (v := undef) (a' := ?_) #[true, true, true, true, true, true, true, true, true, true, true, true, true, true, true, true, true, true, true, true, true, true, true, true, true, true, true, true, true, true, true, true, true, true, true, true, true, true, false, false, false, false, false, false] rfl rfl (any_of HT_.out (by kernel_rfl)) (fun _ _ _ h => h) (Or.inr ⟨by rfl, rfl⟩) ?_ ?_; rotate_left
                  next =>
                   simp only [Act.put, List.setIfInBounds_toArray, List.set_cons_zero, List.set_cons_succ, i64_w, i32_w]; rfl
                  refine pure_ (i := 38) (N := some 100) (v := undef) (a' := ?_) #[true, true, true, true, true, true, true, true, true, true, true, true, true, true, true, true, true, true, true, true, true, true, true, true, true, true, true, true, true, true, true, true, true, true, true, true, true, true, true, false, false, false, false, false] rfl rfl (any_of HT_.out (by kernel_rfl)) (fun _ _ _ h => h) (Or.inr ⟨by rfl, rfl⟩) ?_ ?_; rotate_left
                  next =>
                   simp only [Act.put, List.setIfInBounds_toArray, List.set_cons_zero, List.set_cons_succ, i64_w, i32_w]; rfl
                  refine pure_ (i := 39) (N := some 101) (v := undef) (a' := ?_) #[true, true, true, true, true, true, true, true, true, true, true, true, true, true, true, true, true, true, true, true, true, true, true, true, true, true, true, true, true, true, true, true, true, true, true, true, true, true, true, true, false, false, false, false] rfl rfl (any_of HT_.out (by kernel_rfl)) (fun _ _ _ h => h) (Or.inr ⟨by rfl, rfl⟩) ?_ ?_; rotate_left
                  next =>
                   simp only [Act.put, List.setIfInBounds_toArray, List.set_cons_zero, List.set_cons_succ, i64_w, i32_w]; rfl
                  refine pure_ (i := 40) (N := some 102) (v := undef) (a' := ?_) #[true, true, true, true, true, true, true, true, true, true, true, true, true, true, true, true, true, true, true, true, true, true, true, true, true, true, true, true, true, true, true, true, true, true, true, true, true, true, true, true, true, false, false, false] rfl rfl (any_of HT_.out (by kernel_rfl)) (fun _ _ _ h => h) (Or.inr ⟨by rfl, rfl⟩) ?_ ?_; rotate_left
                  next =>
                   simp only [Act.put, List.setIfInBounds_toArray, List.set_cons_zero, List.set_cons_succ, i64_w, i32_w]; rfl
                  refine pure_ (i := 41) (N := some 103) (v := undef) (a' := ?_) #[true, true, true, true, true, true, true, true, true, true, true, true, true, true, true, true, true, true, true, true, true, true, true, true, true, true, true, true, true, true, true, true, true, true, true, true, true, true, true, true, true, true, false, false] rfl rfl (any_of HT_.out (by kernel_rfl)) (fun _ _ _ h => h) (Or.inr ⟨by rfl, rfl⟩) ?_ ?_; rotate_left
                  next =>
                   simp only [Act.put, List.setIfInBounds_toArray, List.set_cons_zero, List.set_cons_succ, i64_w, i32_w]; rfl
                  refine pure_ (i := 42) (N := some 104) (v := undef) (a' := ?_) #[true, true, true, true, true, true, true, true, true, true, true, true, true, true, true, true, true, true, true, true, true, true, true, true, true, true, true, true, true, true, true, true, true, true, true, true, true, true, true, true, true, true, true, false] rfl rfl (any_of HT_.out (by kernel_rfl)) (fun _ _ _ h => h) (Or.inr ⟨by rfl, rfl⟩) ?_ ?_; rotate_left
                  next =>
                   simp only [Act.put, List.setIfInBounds_toArray, List.set_cons_zero, List.set_cons_succ, i64_w, i32_w]; rfl
                  refine pure_ (i := 43) (N := some 105) (v := ?_) (a' := ?_) #[true, true, true, true, true, true, true, true, true, true, true, true, true, true, true, true, true, true, true, true, true, true, true, true, true, true, true, true, true, true, true, true, true, true, true, true, true, true, true, true, true, true, true, true] rfl rfl (any_of HT_.out (by kernel_rfl)) (fun _ _ _ h => h) (Or.inl ⟨by rfl, ?_⟩) ?_ ?_; rotate_left
                  next =>
                   intro w'; go_simp; (with_reducible rfl)
                  rotate_left
                  next =>
                   simp only [Act.put, List.setIfInBounds_toArray, List.set_cons_zero, List.set_cons_succ, i64_w, i32_w]; rfl
                  refine done_ (done_of HT_.out (by kernel_rfl)) ?_; (try go_wp2); go_ret; exact ⟨z29q13, z29q1⟩
                next =>
                 rw [if_neg c49] at H; exact absurd H (by simp)
               next =>
                rw [if_neg c48] at H; exact absurd H (by simp)
              next => as_aux_lemma =>
               rw [if_neg c47] at H; have c47b0 : decide (x8_4 < (((rd_T89 l0_0 x5_2).f1).length : Int)) = false := decide_eq_false c47; clear c47; have H' := Aside0.mk H; clear H; have hnb76 := NB187_183.out; have hnc76 := NB183_187.out; have hnb77 := NB187_184.out; have hnc77 := NB184_187.out; have hnb78 := NB187_189.out; have hnc78 := NB189_187.out; obtain ⟨hcz79_0, hcz79_1, hfz79_0, hfz79_1⟩ := cellsF2 BK187.out; go_wp2
               go_roundg k4; case measure => have := HJ2.out; have := HK2.out; have := HJ17.out; have := HK4.out; omega
               case rel => exact ⟨(wrap64 (x5_2 + 1)), z29q20, H', ⟨by have := HJ2.out; have := HK2.out; have := HJ17.out; have := HK4.out; omega⟩, ⟨z29q10⟩, ⟨z29q9⟩, ⟨z29q1⟩⟩
        next =>
         rw [if_neg c17] at H; exact absurd H (by simp)
       next =>
        rw [if_neg c16] at H; exact absurd H (by simp)
      next => as_aux_lemma =>
       rw [if_neg c15] at H; have c15b0 : decide (x5_2 < (l0_0.length : Int)) = false := decide_eq_false c15; clear c15; obtain rfl := Option.some.inj H; have hnb80 := NB183_184.out; have hnc80 := NB184_183.out; obtain ⟨hcz81_0, hcz81_1, hfz81_0, hfz81_1⟩ := cellsF2 BK183.out; go_wp2
       go_ret; exact ⟨z29q13, z29q8⟩

end Go.Proofs.Ytnchbgiojdijbaa.PFnExactSameMsg
