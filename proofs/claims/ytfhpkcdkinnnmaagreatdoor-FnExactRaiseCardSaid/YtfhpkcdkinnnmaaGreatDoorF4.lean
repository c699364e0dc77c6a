/- Contracts of functions of the given program, shown on the evaluator; each states its own conditions. -/
import Derived.Test.YtfhpkcdkinnnmaaGreatDoorF1
import Derived.Test.YtfhpkcdkinnnmaaGreatDoorF2
open Go Ev
open Go.Proofs
set_option maxRecDepth 100000
set_option maxHeartbeats 4000000
set_option linter.unusedVariables false
namespace Ev
/-- A number's 64 bits. -/
def u64N (n : Int) : Nat := (n % 18446744073709551616).toNat
theorem u64N_lt (n : Int) : u64N n < 18446744073709551616 := by unfold u64N; omega
theorem u64N_wrap (n : Int) : IntKind.u64.wrap n = (u64N n : Int) := by unfold u64N; show n % 18446744073709551616 = _; omega
theorem u64N_nat {n : Nat} (h : n < 18446744073709551616) : u64N n = n := by unfold u64N; omega
theorem vb_le : ∀ (k n : Nat), n < 128 ^ (k + 1) → (vb n).length ≤ k + 1
  | 0, n, h => by rw [vb_last (by omega)]; simp
  | k + 1, n, h => by
    by_cases h1 : n < 128
    · rw [vb_last h1]; simp
    · rw [vb_more (by omega), List.length_cons]
      have := vb_le k (n / 128) (by rw [Nat.pow_succ] at h; omega)
      omega
theorem vb_ten {n : Nat} (h : n < 18446744073709551616) : (vb n).length ≤ 10 := vb_le 9 n (Nat.lt_trans h (by decide))
theorem rowTen {l m : List Int} {u : Nat} {k : Nat} (h : l ++ m = vb u) (hu : u < 18446744073709551616) (hk : k = 1) : ((byteC l).length + k) * 1 ≤ 140737488355328 := by
  have h1 := vb_ten hu
  rw [← h, List.length_append] at h1
  rw [byteC_len, hk]; omega
theorem specPutV (n : Int) : Fn Tryz.prog [] 127 [.sc (.int .i64 n)] [] (ret [.own true 1 (byteC (vb (u64N n)))] []) := by
  refine fn_of Tryz.func127 (by kernel_rfl) ?_
  have hlt := u64N_lt n
  have hwr := u64N_wrap n
  generalize u64N n = u0 at *
  conv => whnf
  rw [hwr]
  refine loop_of (A := List Int × Nat) (fun x => ⟨[(3, .sc (.int .u64 x.2)), (4, .hdr 0 [])], [(0, some ⟨byteC x.1, true, 1, false⟩)], 1, 24, 0⟩) (fun x => x.2) (fun x => x.2 < 18446744073709551616 ∧ x.1 ++ vb x.2 = vb u0) ([], u0) rfl ⟨hlt, by simp⟩ ?_
  intro ⟨out, u⟩ ⟨h1, h2⟩ X ih
  dsimp only at h1 h2
  conv => whnf
  refine ifP_of (fun h => ?_) (fun h => ?_)
  · have hu : 128 ≤ u := by have := of_decide_eq_true h; dsimp only at this; omega
    conv => whnf
    refine ⟨oneB _, ?_⟩
    conv => whnf
    refine chkP_of (decide_eq_true (rowTen (l := out) h2 hlt rfl)) ?_
    conv => whnf
    have h5 := ih (out ++ [((u % 128 + 128 : Nat) : Int)], u / 128) ⟨by dsimp only; omega, by dsimp only; rw [← h2, vb_more hu, List.append_assoc]; rfl⟩ (by dsimp only; omega)
    dsimp only at h5
    rw [← byteC_snoc, ← spec_q (u := u) (by omega), ← spec_b] at h5
    exact h5
  · have hu : u < 128 := by have := of_decide_eq_false h; dsimp only at this; omega
    conv => whnf
    refine ⟨oneB _, ?_⟩
    conv => whnf
    refine chkP_of (decide_eq_true (rowTen (l := out) h2 hlt rfl)) ?_
    conv => whnf
    refine ⟨?_, rfl⟩
    rw [vb_last hu] at h2
    show [V.own true 1 (byteC out ++ [[V.sc (.int .u8 (IntKind.u8.wrap (u : Int)))]])] = _
    rw [u8k (by omega), byteC_snoc, h2]

theorem implPutV (n : Int) : Fn Tryz.prog [] 135 [.sc (.int .i64 n)] [] (ret [.own true 1 (byteC (vb (u64N n)))] []) := by
  refine fn_of Tryz.func135 (by kernel_rfl) ?_
  have hlt := u64N_lt n
  have hwr := u64N_wrap n
  generalize u64N n = u0 at *
  conv => whnf
  rw [hwr]
  refine loop_of (A := List Int × Nat) (fun x => outS x.1 x.2) (fun x => x.2) (fun x => x.2 < 18446744073709551616 ∧ x.1 ++ vb x.2 = vb u0) ([], u0) rfl ⟨hlt, by simp⟩ ?_
  intro ⟨out, u⟩ ⟨h1, h2⟩ X ih
  dsimp only at h1 h2
  have more : 128 ≤ u → X (outS (out ++ [((u % 128 + 128 : Nat) : Int)]) (u / 128)) := fun hu => ih (out ++ [((u % 128 + 128 : Nat) : Int)], u / 128) ⟨by dsimp only; omega, by dsimp only; rw [← h2, vb_more hu, List.append_assoc]; rfl⟩ (by dsimp only; omega)
  cases out with
  | nil =>
    conv => whnf
    refine ifP_of (fun h => ?_) (fun h => ?_)
    · have hu : 128 ≤ u := by have := of_decide_eq_true h; dsimp only at this; omega
      conv => whnf
      refine ⟨oneB _, ?_⟩
      conv => whnf
      have h5 := more hu
      have e : outS ([] ++ [((u % 128 + 128 : Nat) : Int)]) (u / 128) = ⟨[(3, .hdr 0 []), (4, .sc (.int .u64 (u / 128 : Nat)))], [(0, some ⟨byteC ([] ++ [((u % 128 + 128 : Nat) : Int)]), true, 1, false⟩)], 1, 22, 0⟩ := rfl
      rw [e, ← byteC_snoc, ← impl_q (u := u) (by omega), ← or128] at h5
      exact h5
    · have hu : u < 128 := by have := of_decide_eq_false h; dsimp only at this; omega
      conv => whnf
      refine ⟨oneB _, ?_⟩
      conv => whnf
      refine ⟨?_, rfl⟩
      rw [vb_last hu] at h2
      show [V.own true 1 (byteC [] ++ [[V.sc (.int .u8 (IntKind.u8.wrap (u : Int)))]])] = _
      rw [u8k (by omega), byteC_snoc, h2]
  | cons a l =>
    conv => whnf
    refine ifP_of (fun h => ?_) (fun h => ?_)
    · have hu : 128 ≤ u := by have := of_decide_eq_true h; dsimp only at this; omega
      conv => whnf
      refine ⟨oneB _, ?_⟩
      conv => whnf
      refine chkP_of (decide_eq_true (rowTen (l := a :: l) h2 hlt rfl)) ?_
      conv => whnf
      have h5 := more hu
      have e : outS ((a :: l) ++ [((u % 128 + 128 : Nat) : Int)]) (u / 128) = ⟨[(3, .hdr 0 []), (4, .sc (.int .u64 (u / 128 : Nat)))], [(0, some ⟨byteC ((a :: l) ++ [((u % 128 + 128 : Nat) : Int)]), true, 1, false⟩)], 1, 22, 0⟩ := rfl
      rw [e, ← byteC_snoc, ← impl_q (u := u) (by omega), ← or128] at h5
      exact h5
    · have hu : u < 128 := by have := of_decide_eq_false h; dsimp only at this; omega
      conv => whnf
      refine ⟨oneB _, ?_⟩
      conv => whnf
      refine chkP_of (decide_eq_true (rowTen (l := a :: l) h2 hlt rfl)) ?_
      conv => whnf
      refine ⟨?_, rfl⟩
      rw [vb_last hu] at h2
      show [V.own true 1 (byteC (a :: l) ++ [[V.sc (.int .u8 (IntKind.u8.wrap (u : Int)))]])] = _
      rw [u8k (by omega), byteC_snoc, h2]
end Ev
open Go Ev
open Go.Proofs
set_option maxRecDepth 100000
set_option maxHeartbeats 4000000
set_option linter.unusedVariables false
namespace Ev
def fixB : Nat → Nat → List Int
  | 0, _ => []
  | n + 1, u => ((u % 256 : Nat) : Int) :: fixB n (u / 256)
theorem fixB_len : ∀ n u, (fixB n u).length = n
  | 0, _ => rfl
  | n + 1, u => by rw [fixB, List.length_cons, fixB_len]
theorem fix_spec {u : Nat} : IntKind.u8.wrap ((u : Int).tmod 256) = ((u % 256 : Nat) : Int) := by
  rw [Int.tmod_eq_emod_of_nonneg (by omega), IntKind.wrap_u8]; omega
theorem fix_quo {u : Nat} (h : u < 18446744073709551616) : IntKind.u64.wrap ((u : Int).tdiv 256) = ((u / 256 : Nat) : Int) := by
  rw [Int.tdiv_eq_ediv_of_nonneg (by omega), show (u : Int) / 256 = ((u / 256 : Nat) : Int) by omega, wrapU (by omega)]
theorem one_bytes {d own : Bool} (l : List Int) : OneEs d own (byteC l) := fun e he v hv => by
  unfold byteC at he
  obtain ⟨n, _, rfl⟩ := List.mem_map.1 he
  obtain rfl := List.mem_singleton.1 hv
  rfl
theorem byteC_app (l m : List Int) : byteC (l ++ m) = byteC l ++ byteC m := by unfold byteC; rw [List.map_append]
theorem fixB_snoc : ∀ (k u : Nat), fixB (k + 1) u = fixB k u ++ [((u / 256 ^ k % 256 : Nat) : Int)]
  | 0, u => by simp [fixB]
  | k + 1, u => by
    have h := fixB_snoc k (u / 256)
    have e : u / 256 / 256 ^ k = u / 256 ^ (k + 1) := by rw [Nat.div_div_eq_div_mul, Nat.pow_succ, Nat.mul_comm]
    rw [e] at h
    show ((u % 256 : Nat) : Int) :: fixB (k + 1) (u / 256) = _
    rw [h]
    rfl
theorem specPutF4 (x : Int) : Fn Tryz.prog [] 177 [.sc (.int .i64 x), .sc (.int .i64 4)] [] (ret [.own true 1 (byteC (fixB 4 (u64N x)))] []) := by
  have hx := u64N_wrap x
  have hu := u64N_lt x
  generalize u64N x = u0 at *
  refine fn_of Tryz.func177 (by kernel_rfl) ?_
  conv => whnf
  rw [hx]
  refine loop_of (A := Nat) (fun k => ⟨[(1, .sc (.int .i64 4)), (5, .hdr 0 []), (6, .sc (.int .u64 (u0 / 256 ^ k : Nat))), (7, .sc (.int .i64 k))], [(0, some ⟨byteC (fixB k u0), dpOf (cx 177) 5, 1, false⟩)], 1, Tryz.f177.ntmps, 0⟩) (fun k => 4 - k) (fun k => k ≤ 4) 0 (by rw [Nat.pow_zero, Nat.div_one]; rfl) (by decide) ?_
  intro k X hk ih
  conv => whnf
  refine ifP_of (fun h => ?_) (fun h => ?_)
  · have hk4 : k < 4 := by
      have := of_decide_eq_true h
      omega
    have ih := ih (k + 1) (by omega) (by omega)
    rw [fixB_snoc, byteC_app] at ih
    have hl : (byteC (fixB k u0)).length = k := by unfold byteC; rw [List.length_map, fixB_len]
    have hlt : u0 / 256 ^ k < 18446744073709551616 := Nat.lt_of_le_of_lt (Nat.div_le_self _ _) hu
    have hq : u0 / 256 ^ (k + 1) = u0 / 256 ^ k / 256 := by rw [Nat.pow_succ, Nat.div_div_eq_div_mul]
    rw [hq] at ih
    generalize byteC (fixB k u0) = es at *
    generalize u0 / 256 ^ k = u at *
    have h5 := fix_spec (u := u)
    have h6 := fix_quo hlt
    have hc : ((es.length + 1) * 1) ≤ 140737488355328 := by omega
    have hk1 : IntKind.i64.wrap ((k : Int) + 1) = ((k + 1 : Nat) : Int) := by rw [IntKind.wrap_i64]; omega
    rw [← h5, ← h6, ← hk1] at ih
    clear h
    conv => whnf
    refine ⟨fun e he v hv => by obtain rfl := List.mem_singleton.1 he; obtain rfl := List.mem_singleton.1 hv; rfl, ?_⟩
    conv => whnf
    refine chkP_of ?hchk ?_
    case hchk => first | exact decide_eq_true (by omega) | (simp; done) | (simp; omega) | exact decide_eq_true hc
    conv => whnf
    exact ih
  · have hk4 : k = 4 := by have : ¬ ((k : Int) < 4) := by simpa using h
                           omega
    subst hk4
    clear ih
    conv => whnf
    exact ⟨rfl, rfl⟩
theorem specPutF8 (x : Int) : Fn Tryz.prog [] 177 [.sc (.int .i64 x), .sc (.int .i64 8)] [] (ret [.own true 1 (byteC (fixB 8 (u64N x)))] []) := by
  have hx := u64N_wrap x
  have hu := u64N_lt x
  generalize u64N x = u0 at *
  refine fn_of Tryz.func177 (by kernel_rfl) ?_
  conv => whnf
  rw [hx]
  refine loop_of (A := Nat) (fun k => ⟨[(1, .sc (.int .i64 8)), (5, .hdr 0 []), (6, .sc (.int .u64 (u0 / 256 ^ k : Nat))), (7, .sc (.int .i64 k))], [(0, some ⟨byteC (fixB k u0), dpOf (cx 177) 5, 1, false⟩)], 1, Tryz.f177.ntmps, 0⟩) (fun k => 8 - k) (fun k => k ≤ 8) 0 (by rw [Nat.pow_zero, Nat.div_one]; rfl) (by decide) ?_
  intro k X hk ih
  conv => whnf
  refine ifP_of (fun h => ?_) (fun h => ?_)
  · have hk4 : k < 8 := by
      have := of_decide_eq_true h
      omega
    have ih := ih (k + 1) (by omega) (by omega)
    rw [fixB_snoc, byteC_app] at ih
    have hl : (byteC (fixB k u0)).length = k := by unfold byteC; rw [List.length_map, fixB_len]
    have hlt : u0 / 256 ^ k < 18446744073709551616 := Nat.lt_of_le_of_lt (Nat.div_le_self _ _) hu
    have hq : u0 / 256 ^ (k + 1) = u0 / 256 ^ k / 256 := by rw [Nat.pow_succ, Nat.div_div_eq_div_mul]
    rw [hq] at ih
    generalize byteC (fixB k u0) = es at *
    generalize u0 / 256 ^ k = u at *
    have h5 := fix_spec (u := u)
    have h6 := fix_quo hlt
    have hc : ((es.length + 1) * 1) ≤ 140737488355328 := by omega
    have hk1 : IntKind.i64.wrap ((k : Int) + 1) = ((k + 1 : Nat) : Int) := by rw [IntKind.wrap_i64]; omega
    rw [← h5, ← h6, ← hk1] at ih
    clear h
    conv => whnf
    refine ⟨fun e he v hv => by obtain rfl := List.mem_singleton.1 he; obtain rfl := List.mem_singleton.1 hv; rfl, ?_⟩
    conv => whnf
    refine chkP_of ?hchk ?_
    case hchk => first | exact decide_eq_true (by omega) | (simp; done) | (simp; omega) | exact decide_eq_true hc
    conv => whnf
    exact ih
  · have hk4 : k = 8 := by have : ¬ ((k : Int) < 8) := by simpa using h
                           omega
    subst hk4
    clear ih
    conv => whnf
    exact ⟨rfl, rfl⟩
theorem shift_b (n : Int) {k : Nat} (hk : k < 8) : IntKind.u8.wrap (n.fdiv (2 ^ (min ((8 * k : Nat) : Int).toNat IntKind.i64.bits))) = ((u64N n / 256 ^ k % 256 : Nat) : Int) := by
  have hb : IntKind.i64.bits = 64 := rfl
  rw [hb, show min ((8 * k : Nat) : Int).toNat 64 = 8 * k by omega, IntKind.wrap_u8, Int.fdiv_eq_ediv_of_nonneg _ (Int.le_of_lt (Int.pow_pos (by decide)))]
  unfold u64N
  match k, hk with
  | 0, _ => simp; omega
  | 1, _ => show n / 256 % 256 = (((n % 18446744073709551616).toNat / 256 % 256 : Nat) : Int); omega
  | 2, _ => show n / 65536 % 256 = (((n % 18446744073709551616).toNat / 65536 % 256 : Nat) : Int); omega
  | 3, _ => show n / 16777216 % 256 = (((n % 18446744073709551616).toNat / 16777216 % 256 : Nat) : Int); omega
  | 4, _ => show n / 4294967296 % 256 = (((n % 18446744073709551616).toNat / 4294967296 % 256 : Nat) : Int); omega
  | 5, _ => show n / 1099511627776 % 256 = (((n % 18446744073709551616).toNat / 1099511627776 % 256 : Nat) : Int); omega
  | 6, _ => show n / 281474976710656 % 256 = (((n % 18446744073709551616).toNat / 281474976710656 % 256 : Nat) : Int); omega
  | 7, _ => show n / 72057594037927936 % 256 = (((n % 18446744073709551616).toNat / 72057594037927936 % 256 : Nat) : Int); omega
theorem implPutF4 (x : Int) : Fn Tryz.prog [] 160 [.sc (.int .i64 x), .sc (.int .i64 4)] [] (ret [.own true 1 (byteC (fixB 4 (u64N x)))] []) := by
  refine fn_of Tryz.func160 (by kernel_rfl) ?_
  conv => whnf
  refine loop_of (A := Nat) (fun k => ⟨[(0, .sc (.int .i64 x)), (1, .sc (.int .i64 4)), (5, .hdr 0 []), (6, .sc (.int .i64 k))], [(0, some ⟨byteC (fixB k (u64N x)), true, 1, false⟩)], 1, 27, 0⟩) (fun k => 4 - k) (fun k => k ≤ 4) 0 rfl (by decide) ?_
  intro k hk X ih
  conv => whnf
  refine ifP_of (fun h => ?_) (fun h => ?_)
  · have hk4 : k < 4 := by
      have := of_decide_eq_true h
      omega
    have ih := ih (k + 1) (by omega) (by omega)
    rw [fixB_snoc, byteC_app] at ih
    have hl : (byteC (fixB k (u64N x))).length = k := by rw [byteC_len, fixB_len]
    have h5 := shift_b x (k := k) (by omega)
    generalize byteC (fixB k (u64N x)) = es at *
    have hc : ((es.length + 1) * 1) ≤ 140737488355328 := by omega
    have hk1 : IntKind.i64.wrap ((k : Int) + 1) = ((k + 1 : Nat) : Int) := by rw [IntKind.wrap_i64]; omega
    rw [← h5, ← hk1] at ih
    have h8 : IntKind.i64.wrap (8 * (k : Int)) = ((8 * k : Nat) : Int) := by rw [wrap64 (by omega) (by omega)]; omega
    clear h
    conv => whnf
    rw [h8]
    conv => whnf
    refine ⟨oneB _, ?_⟩
    conv => whnf
    refine chkP_of ?hchk ?_
    case hchk => first | exact decide_eq_true (by omega) | (simp; done) | (simp; omega) | exact decide_eq_true hc
    conv => whnf
    exact ih
  · have hk4 : k = 4 := by have : ¬ ((k : Int) < 4) := by simpa using h
                           omega
    subst hk4
    clear ih
    conv => whnf
    exact ⟨rfl, rfl⟩
theorem implPutF8 (x : Int) : Fn Tryz.prog [] 160 [.sc (.int .i64 x), .sc (.int .i64 8)] [] (ret [.own true 1 (byteC (fixB 8 (u64N x)))] []) := by
  refine fn_of Tryz.func160 (by kernel_rfl) ?_
  conv => whnf
  refine loop_of (A := Nat) (fun k => ⟨[(0, .sc (.int .i64 x)), (1, .sc (.int .i64 8)), (5, .hdr 0 []), (6, .sc (.int .i64 k))], [(0, some ⟨byteC (fixB k (u64N x)), true, 1, false⟩)], 1, 27, 0⟩) (fun k => 8 - k) (fun k => k ≤ 8) 0 rfl (by decide) ?_
  intro k hk X ih
  conv => whnf
  refine ifP_of (fun h => ?_) (fun h => ?_)
  · have hk4 : k < 8 := by
      have := of_decide_eq_true h
      omega
    have ih := ih (k + 1) (by omega) (by omega)
    rw [fixB_snoc, byteC_app] at ih
    have hl : (byteC (fixB k (u64N x))).length = k := by rw [byteC_len, fixB_len]
    have h5 := shift_b x (k := k) (by omega)
    generalize byteC (fixB k (u64N x)) = es at *
    have hc : ((es.length + 1) * 1) ≤ 140737488355328 := by omega
    have hk1 : IntKind.i64.wrap ((k : Int) + 1) = ((k + 1 : Nat) : Int) := by rw [IntKind.wrap_i64]; omega
    rw [← h5, ← hk1] at ih
    have h8 : IntKind.i64.wrap (8 * (k : Int)) = ((8 * k : Nat) : Int) := by rw [wrap64 (by omega) (by omega)]; omega
    clear h
    conv => whnf
    rw [h8]
    conv => whnf
    refine ⟨oneB _, ?_⟩
    conv => whnf
    refine chkP_of ?hchk ?_
    case hchk => first | exact decide_eq_true (by omega) | (simp; done) | (simp; omega) | exact decide_eq_true hc
    conv => whnf
    exact ih
  · have hk4 : k = 8 := by have : ¬ ((k : Int) < 8) := by simpa using h
                           omega
    subst hk4
    clear ih
    conv => whnf
    exact ⟨rfl, rfl⟩
end Ev
open Go Ev
open Go.Proofs
set_option maxRecDepth 100000
set_option maxHeartbeats 4000000
set_option linter.unusedVariables false
namespace Ev
/-- An Op's numbers are small. -/
structure NiceO (o : Opr) : Prop where
  num : 0 ≤ o.num ∧ o.num < 536870912
  kind : 0 ≤ o.kind ∧ o.kind < 536870912
  ref : 0 ≤ o.ref ∧ o.ref < 536870912
  oneof : 0 ≤ o.oneof ∧ o.oneof < 536870912
  run : 0 ≤ o.run ∧ o.run < 536870912
structure NiceM (m : Modu) : Prop where
  len : m.ops.length ≤ 40
  all : ∀ o ∈ m.ops, NiceO o
theorem nice_of {l : List Modu} (h : irS l = true) : l.length ≤ 30 ∧ ∀ m ∈ l, NiceM m := by
  unfold irS at h
  rw [Bool.and_eq_true, Bool.and_eq_true] at h
  obtain ⟨h1, h2, h3⟩ := h
  rw [allAt_iff (l := l) (q := fun _ m => !decide ((m.ops.length : Int) > 40)) (p := shortAt l) (fun j => by unfold shortAt; cases l[j]? <;> rfl)] at h2
  rw [allAt_iff (l := l) (q := fun _ m => modS l m) (p := modAt l) (fun j => by unfold modAt; cases l[j]? <;> rfl)] at h3
  have h1 := inB_iff.1 h1
  refine ⟨by omega, fun m hm => ?_⟩
  obtain ⟨j, hj, rfl⟩ := List.getElem_of_mem hm
  have h2 := h2 j hj
  have h3 := h3 j hj
  generalize l[j] = m at *
  simp at h2
  unfold modS at h3
  rw [Bool.and_eq_true] at h3
  have h3 := h3.1
  rw [allAt_iff (l := m.ops) (q := fun j o => opOkB l m.ops j o) (p := opAtB l m.ops) (fun j => by unfold opAtB; cases m.ops[j]? <;> rfl)] at h3
  refine ⟨by omega, fun o ho => ?_⟩
  obtain ⟨i, hi, rfl⟩ := List.getElem_of_mem ho
  have h3 := h3 i hi
  generalize m.ops[i] = o at *
  unfold opOkB shapeOk runOk refsOf at h3
  simp only [Bool.and_eq_true, Bool.or_eq_true, inB_iff] at h3
  obtain ⟨⟨a1, a2, a3, a4, a5, a6⟩, b1, b2⟩ := h3
  unfold numB at a1
  simp only [Bool.and_eq_true, inB_iff] at a1
  refine ⟨by omega, by omega, ?_, by omega, ?_⟩
  · split at a4 <;> omega
  · rcases b2 with b2 | b2
    · have : o.run = 0 := by simpa using b2
      omega
    · omega
end Ev
