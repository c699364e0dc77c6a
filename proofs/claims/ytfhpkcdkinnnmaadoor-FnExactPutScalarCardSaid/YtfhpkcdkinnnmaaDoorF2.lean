/- Contracts of functions of the given program, shown on the evaluator; each states its own conditions. -/
import Derived.Test.YtfhpkcdkinnnmaaDoorF1
open Go Ev
open Go.Proofs
set_option maxRecDepth 100000
set_option maxHeartbeats 4000000
set_option linter.unusedVariables false
namespace Ev
def inB (n lo hi : Int) : Bool := decide (n ≥ lo) && decide (n ≤ hi)
def numB (n : Int) : Bool := inB n 1 536870911 && !inB n 19000 19999
def wireOf (k : Int) : Int := if k = 1 ∨ k = 2 ∨ k = 3 ∨ k = 4 ∨ k = 5 ∨ k = 6 ∨ k = 7 ∨ k = 17 then 0 else if k = 8 ∨ k = 10 ∨ k = 12 then 5 else if k = 9 ∨ k = 11 ∨ k = 13 then 1 else if k = 14 ∨ k = 15 ∨ k = 16 then 2 else -1
theorem bl {x y : Bool} (h : x = y) : [V.sc (.bool x)] = [V.sc (.bool y)] := by rw [h]
theorem il {x y : Int} (h : x = y) : [V.sc (.int .i64 x)] = [V.sc (.int .i64 y)] := by rw [h]
theorem specIn (n lo hi : Int) : Fn Tryd.prog [] 80 [.sc (.int .i64 n), .sc (.int .i64 lo), .sc (.int .i64 hi)] [] (ret [.sc (.bool (inB n lo hi))] []) := by
  refine fn_of Tryd.func80 (by kernel_rfl) ?_
  conv => whnf
  refine ifP_of (fun h => ?_) (fun h => ?_)
  · conv => whnf
    exact ⟨bl (show decide (n ≤ hi) = _ by unfold inB; rw [h]; rfl), rfl⟩
  · conv => whnf
    exact ⟨bl (show false = _ by unfold inB; rw [h]; rfl), rfl⟩
theorem implIn (n lo hi : Int) : Fn Tryd.prog [] 53 [.sc (.int .i64 n), .sc (.int .i64 lo), .sc (.int .i64 hi)] [] (ret [.sc (.bool (inB n lo hi))] []) := by
  refine fn_of Tryd.func53 (by kernel_rfl) ?_
  conv => whnf
  refine ifP_of (fun h => ?_) (fun h => ?_)
  · conv => whnf
    exact ⟨bl (show decide (n ≤ hi) = _ by unfold inB; rw [h]; rfl), rfl⟩
  · conv => whnf
    exact ⟨bl (show false = _ by unfold inB; rw [h]; rfl), rfl⟩
theorem specWire (k : Int) : Fn Tryd.prog [] 19 [.sc (.int .i64 k)] [] (ret [.sc (.int .i64 (wireOf k))] []) := by
  refine fn_of Tryd.func19 (by kernel_rfl) ?_
  conv => whnf
  refine ifP_of (fun h => ?_) (fun h0 => ?_)
  · have h : k = 1 := by simpa using h
    subst h
    conv => whnf
    exact ⟨rfl, rfl⟩
  have h0 : ¬ k = 1 := by simpa using h0
  conv => whnf
  refine ifP_of (fun h => ?_) (fun h1 => ?_)
  · have h : k = 2 := by simpa using h
    subst h
    conv => whnf
    exact ⟨rfl, rfl⟩
  have h1 : ¬ k = 2 := by simpa using h1
  conv => whnf
  refine ifP_of (fun h => ?_) (fun h2 => ?_)
  · have h : k = 3 := by simpa using h
    subst h
    conv => whnf
    exact ⟨rfl, rfl⟩
  have h2 : ¬ k = 3 := by simpa using h2
  conv => whnf
  refine ifP_of (fun h => ?_) (fun h3 => ?_)
  · have h : k = 4 := by simpa using h
    subst h
    conv => whnf
    exact ⟨rfl, rfl⟩
  have h3 : ¬ k = 4 := by simpa using h3
  conv => whnf
  refine ifP_of (fun h => ?_) (fun h4 => ?_)
  · have h : k = 5 := by simpa using h
    subst h
    conv => whnf
    exact ⟨rfl, rfl⟩
  have h4 : ¬ k = 5 := by simpa using h4
  conv => whnf
  refine ifP_of (fun h => ?_) (fun h5 => ?_)
  · have h : k = 6 := by simpa using h
    subst h
    conv => whnf
    exact ⟨rfl, rfl⟩
  have h5 : ¬ k = 6 := by simpa using h5
  conv => whnf
  refine ifP_of (fun h => ?_) (fun h6 => ?_)
  · have h : k = 7 := by simpa using h
    subst h
    conv => whnf
    exact ⟨rfl, rfl⟩
  have h6 : ¬ k = 7 := by simpa using h6
  conv => whnf
  refine ifP_of (fun h => ?_) (fun h7 => ?_)
  · have h : k = 17 := by simpa using h
    subst h
    conv => whnf
    exact ⟨rfl, rfl⟩
  have h7 : ¬ k = 17 := by simpa using h7
  conv => whnf
  refine ifP_of (fun h => ?_) (fun h8 => ?_)
  · have h : k = 8 := by simpa using h
    subst h
    conv => whnf
    exact ⟨rfl, rfl⟩
  have h8 : ¬ k = 8 := by simpa using h8
  conv => whnf
  refine ifP_of (fun h => ?_) (fun h9 => ?_)
  · have h : k = 10 := by simpa using h
    subst h
    conv => whnf
    exact ⟨rfl, rfl⟩
  have h9 : ¬ k = 10 := by simpa using h9
  conv => whnf
  refine ifP_of (fun h => ?_) (fun h10 => ?_)
  · have h : k = 12 := by simpa using h
    subst h
    conv => whnf
    exact ⟨rfl, rfl⟩
  have h10 : ¬ k = 12 := by simpa using h10
  conv => whnf
  refine ifP_of (fun h => ?_) (fun h11 => ?_)
  · have h : k = 9 := by simpa using h
    subst h
    conv => whnf
    exact ⟨rfl, rfl⟩
  have h11 : ¬ k = 9 := by simpa using h11
  conv => whnf
  refine ifP_of (fun h => ?_) (fun h12 => ?_)
  · have h : k = 11 := by simpa using h
    subst h
    conv => whnf
    exact ⟨rfl, rfl⟩
  have h12 : ¬ k = 11 := by simpa using h12
  conv => whnf
  refine ifP_of (fun h => ?_) (fun h13 => ?_)
  · have h : k = 13 := by simpa using h
    subst h
    conv => whnf
    exact ⟨rfl, rfl⟩
  have h13 : ¬ k = 13 := by simpa using h13
  conv => whnf
  refine ifP_of (fun h => ?_) (fun h14 => ?_)
  · have h : k = 14 := by simpa using h
    subst h
    conv => whnf
    exact ⟨rfl, rfl⟩
  have h14 : ¬ k = 14 := by simpa using h14
  conv => whnf
  refine ifP_of (fun h => ?_) (fun h15 => ?_)
  · have h : k = 15 := by simpa using h
    subst h
    conv => whnf
    exact ⟨rfl, rfl⟩
  have h15 : ¬ k = 15 := by simpa using h15
  conv => whnf
  refine ifP_of (fun h => ?_) (fun h16 => ?_)
  · have h : k = 16 := by simpa using h
    subst h
    conv => whnf
    exact ⟨rfl, rfl⟩
  have h16 : ¬ k = 16 := by simpa using h16
  conv => whnf
  exact ⟨il (show (-1 : Int) = wireOf k by unfold wireOf; simp only [h0, h1, h2, h3, h4, h5, h6, h7, h8, h9, h10, h11, h12, h13, h14, h15, h16, or_self, if_false]), rfl⟩
theorem implWire (k : Int) : Fn Tryd.prog [] 26 [.sc (.int .i64 k)] [] (ret [.sc (.int .i64 (wireOf k))] []) := by
  refine fn_of Tryd.func26 (by kernel_rfl) ?_
  conv => whnf
  refine ifP_of (fun h => ?_) (fun h0 => ?_)
  · have h : k = 1 := by simpa using h
    subst h
    conv => whnf
    exact ⟨rfl, rfl⟩
  have h0 : ¬ k = 1 := by simpa using h0
  conv => whnf
  refine ifP_of (fun h => ?_) (fun h1 => ?_)
  · have h : k = 2 := by simpa using h
    subst h
    conv => whnf
    exact ⟨rfl, rfl⟩
  have h1 : ¬ k = 2 := by simpa using h1
  conv => whnf
  refine ifP_of (fun h => ?_) (fun h2 => ?_)
  · have h : k = 3 := by simpa using h
    subst h
    conv => whnf
    exact ⟨rfl, rfl⟩
  have h2 : ¬ k = 3 := by simpa using h2
  conv => whnf
  refine ifP_of (fun h => ?_) (fun h3 => ?_)
  · have h : k = 4 := by simpa using h
    subst h
    conv => whnf
    exact ⟨rfl, rfl⟩
  have h3 : ¬ k = 4 := by simpa using h3
  conv => whnf
  refine ifP_of (fun h => ?_) (fun h4 => ?_)
  · have h : k = 5 := by simpa using h
    subst h
    conv => whnf
    exact ⟨rfl, rfl⟩
  have h4 : ¬ k = 5 := by simpa using h4
  conv => whnf
  refine ifP_of (fun h => ?_) (fun h5 => ?_)
  · have h : k = 6 := by simpa using h
    subst h
    conv => whnf
    exact ⟨rfl, rfl⟩
  have h5 : ¬ k = 6 := by simpa using h5
  conv => whnf
  refine ifP_of (fun h => ?_) (fun h6 => ?_)
  · have h : k = 7 := by simpa using h
    subst h
    conv => whnf
    exact ⟨rfl, rfl⟩
  have h6 : ¬ k = 7 := by simpa using h6
  conv => whnf
  refine ifP_of (fun h => ?_) (fun h7 => ?_)
  · have h : k = 17 := by simpa using h
    subst h
    conv => whnf
    exact ⟨rfl, rfl⟩
  have h7 : ¬ k = 17 := by simpa using h7
  conv => whnf
  refine ifP_of (fun h => ?_) (fun h8 => ?_)
  · have h : k = 8 := by simpa using h
    subst h
    conv => whnf
    exact ⟨rfl, rfl⟩
  have h8 : ¬ k = 8 := by simpa using h8
  conv => whnf
  refine ifP_of (fun h => ?_) (fun h9 => ?_)
  · have h : k = 10 := by simpa using h
    subst h
    conv => whnf
    exact ⟨rfl, rfl⟩
  have h9 : ¬ k = 10 := by simpa using h9
  conv => whnf
  refine ifP_of (fun h => ?_) (fun h10 => ?_)
  · have h : k = 12 := by simpa using h
    subst h
    conv => whnf
    exact ⟨rfl, rfl⟩
  have h10 : ¬ k = 12 := by simpa using h10
  conv => whnf
  refine ifP_of (fun h => ?_) (fun h11 => ?_)
  · have h : k = 9 := by simpa using h
    subst h
    conv => whnf
    exact ⟨rfl, rfl⟩
  have h11 : ¬ k = 9 := by simpa using h11
  conv => whnf
  refine ifP_of (fun h => ?_) (fun h12 => ?_)
  · have h : k = 11 := by simpa using h
    subst h
    conv => whnf
    exact ⟨rfl, rfl⟩
  have h12 : ¬ k = 11 := by simpa using h12
  conv => whnf
  refine ifP_of (fun h => ?_) (fun h13 => ?_)
  · have h : k = 13 := by simpa using h
    subst h
    conv => whnf
    exact ⟨rfl, rfl⟩
  have h13 : ¬ k = 13 := by simpa using h13
  conv => whnf
  refine ifP_of (fun h => ?_) (fun h14 => ?_)
  · have h : k = 14 := by simpa using h
    subst h
    conv => whnf
    exact ⟨rfl, rfl⟩
  have h14 : ¬ k = 14 := by simpa using h14
  conv => whnf
  refine ifP_of (fun h => ?_) (fun h15 => ?_)
  · have h : k = 15 := by simpa using h
    subst h
    conv => whnf
    exact ⟨rfl, rfl⟩
  have h15 : ¬ k = 15 := by simpa using h15
  conv => whnf
  refine ifP_of (fun h => ?_) (fun h16 => ?_)
  · have h : k = 16 := by simpa using h
    subst h
    conv => whnf
    exact ⟨rfl, rfl⟩
  have h16 : ¬ k = 16 := by simpa using h16
  conv => whnf
  exact ⟨il (show (-1 : Int) = wireOf k by unfold wireOf; simp only [h0, h1, h2, h3, h4, h5, h6, h7, h8, h9, h10, h11, h12, h13, h14, h15, h16, or_self, if_false]), rfl⟩
end Ev
open Go Ev
open Go.Proofs
set_option maxRecDepth 100000
set_option maxHeartbeats 4000000
set_option linter.unusedVariables false
namespace Ev
/-- The bytes of a varint. -/
def vb (u : Nat) : List Int := if u < 128 then [(u : Int)] else ((u % 128 + 128 : Nat) : Int) :: vb (u / 128)
termination_by u
decreasing_by omega
theorem oneB (b : Int) : OneEs true false [[.sc (.int .u8 b)]] := fun e he v hv => by
  obtain rfl := List.mem_singleton.1 he
  obtain rfl := List.mem_singleton.1 hv
  rfl
theorem byteC_snoc (l : List Int) (b : Int) : byteC l ++ [[.sc (.int .u8 b)]] = byteC (l ++ [b]) := by unfold byteC; rw [List.map_append]; rfl
theorem wrapU {n : Nat} (h : n < 18446744073709551616) : IntKind.u64.wrap (n : Int) = n := by
  show ((n : Int) % 18446744073709551616) = n
  omega
theorem u8k {n : Nat} (h : n < 256) : IntKind.u8.wrap (n : Int) = n := by
  show ((n : Int) % 256) = n
  omega
theorem tm128 (u : Nat) : ((u : Int).tmod 128) = ((u % 128 : Nat) : Int) := by rw [Int.tmod_eq_emod_of_nonneg (by omega)]; omega
theorem td128 (u : Nat) : ((u : Int).tdiv 128) = ((u / 128 : Nat) : Int) := by rw [Int.tdiv_eq_ediv_of_nonneg (by omega)]; omega
theorem spec_b {u : Nat} : IntKind.u8.wrap (IntKind.u64.wrap ((u : Int).tmod 128 + 128)) = ((u % 128 + 128 : Nat) : Int) := by
  rw [tm128, show (((u % 128 : Nat) : Int) + 128) = ((u % 128 + 128 : Nat) : Int) by omega, wrapU (by omega), u8k (by omega)]
theorem spec_q {u : Nat} (h : u < 18446744073709551616) : IntKind.u64.wrap ((u : Int).tdiv 128) = ((u / 128 : Nat) : Int) := by
  rw [td128, wrapU (by omega)]
theorem vb_last {u : Nat} (h : u < 128) : vb u = [(u : Int)] := by rw [vb, if_pos h]
theorem vb_more {u : Nat} (h : 128 ≤ u) : vb u = ((u % 128 + 128 : Nat) : Int) :: vb (u / 128) := by rw [vb, if_neg (by omega)]
theorem rowLe {l : List Int} {n : Nat} {k : Nat} (h : l.length ≤ n) (hn : n < 1099511627776) (hk : k = 1) : ((byteC l).length + k) * 1 ≤ 140737488355328 := by rw [byteC_len, hk]; omega
theorem specPutVarint (n : Nat) (hn : n < 1099511627776) : Fn Tryd.prog [] 22 [.sc (.int .i64 n)] [] (ret [.own true 1 (byteC (vb n))] []) := by
  refine fn_of Tryd.func22 (by kernel_rfl) ?_
  conv => whnf
  refine loop_of (A := List Int × Nat) (fun x => ⟨[(3, .sc (.int .u64 x.2)), (4, .hdr 0 [])], [(0, some ⟨byteC x.1, true, 1, false⟩)], 1, 24, 0⟩) (fun x => x.2) (fun x => x.1.length + x.2 ≤ n ∧ x.1 ++ vb x.2 = vb n) ([], n) ?_ ⟨by simp, by simp⟩ ?_
  · rw [wrapU (by omega)]; rfl
  intro ⟨out, u⟩ ⟨h1, h2⟩ X ih
  dsimp only at h1 h2
  conv => whnf
  refine ifP_of (fun h => ?_) (fun h => ?_)
  · have hu : 128 ≤ u := by have := of_decide_eq_true h; dsimp only at this; omega
    conv => whnf
    refine ⟨oneB _, ?_⟩
    conv => whnf
    refine chkP_of (decide_eq_true (rowLe (l := out) (n := n) (by omega) hn rfl)) ?_
    conv => whnf
    have h5 := ih (out ++ [((u % 128 + 128 : Nat) : Int)], u / 128) ⟨by simp; omega, by dsimp only; rw [← h2, vb_more hu, List.append_assoc]; rfl⟩ (by dsimp only; omega)
    dsimp only at h5
    rw [← byteC_snoc, ← spec_q (u := u) (by omega), ← spec_b] at h5
    exact h5
  · have hu : u < 128 := by have := of_decide_eq_false h; dsimp only at this; omega
    conv => whnf
    refine ⟨oneB _, ?_⟩
    conv => whnf
    refine chkP_of (decide_eq_true (rowLe (l := out) (n := n) (by omega) hn rfl)) ?_
    conv => whnf
    refine ⟨?_, rfl⟩
    rw [vb_last hu] at h2
    show [V.own true 1 (byteC out ++ [[V.sc (.int .u8 (IntKind.u8.wrap (u : Int)))]])] = _
    rw [u8k (by omega), byteC_snoc, h2]

theorem or128 {u : Nat} : IntKind.u8.wrap (BitVec.ofInt IntKind.u8.bits (IntKind.u8.wrap (u : Int)) ||| BitVec.ofInt IntKind.u8.bits 128).toNat = ((u % 128 + 128 : Nat) : Int) := by
  have e : IntKind.u8.wrap (u : Int) = ((u % 256 : Nat) : Int) := by show ((u : Int) % 256) = _; omega
  rw [e]
  have key : ∀ x : Fin 256, IntKind.u8.wrap (BitVec.ofInt IntKind.u8.bits ((x.val : Nat) : Int) ||| BitVec.ofInt IntKind.u8.bits 128).toNat = ((x.val % 128 + 128 : Nat) : Int) := by decide +kernel
  have := key ⟨u % 256, by omega⟩
  dsimp only at this
  rw [this]; omega
theorem impl_q {u : Nat} (h : u < 18446744073709551616) : (u : Int).fdiv (2 ^ (min (7 : Int).toNat IntKind.u64.bits)) = ((u / 128 : Nat) : Int) := by
  show (u : Int).fdiv 128 = _
  rw [Int.fdiv_eq_ediv_of_nonneg _ (by omega)]; omega
/-- The bytes so far, as a slice that may be nil. -/
def outS (l : List Int) (u : Nat) : St := match l with
  | [] => ⟨[(3, .sc (.slice none 0 0)), (4, .sc (.int .u64 u))], [], 0, 22, 0⟩
  | a :: l => ⟨[(3, .hdr 0 []), (4, .sc (.int .u64 u))], [(0, some ⟨byteC (a :: l), true, 1, false⟩)], 1, 22, 0⟩
theorem implPutVarint (n : Nat) (hn : n < 1099511627776) : Fn Tryd.prog [] 28 [.sc (.int .i64 n)] [] (ret [.own true 1 (byteC (vb n))] []) := by
  refine fn_of Tryd.func28 (by kernel_rfl) ?_
  conv => whnf
  refine loop_of (A := List Int × Nat) (fun x => outS x.1 x.2) (fun x => x.2) (fun x => x.1.length + x.2 ≤ n ∧ x.1 ++ vb x.2 = vb n) ([], n) ?_ ⟨by simp, by simp⟩ ?_
  · rw [wrapU (by omega)]; rfl
  intro ⟨out, u⟩ ⟨h1, h2⟩ X ih
  dsimp only at h1 h2
  have more : 128 ≤ u → X (outS (out ++ [((u % 128 + 128 : Nat) : Int)]) (u / 128)) := fun hu => ih (out ++ [((u % 128 + 128 : Nat) : Int)], u / 128) ⟨by simp; omega, by dsimp only; rw [← h2, vb_more hu, List.append_assoc]; rfl⟩ (by dsimp only; omega)
  cases out with
  | nil =>
    conv => whnf
    refine ifP_of (fun h => ?_) (fun h => ?_)
    · have hu : 128 ≤ u := by have := of_decide_eq_true h; dsimp only at this; omega
      conv => whnf
      refine ⟨oneB _, ?_⟩
      conv => whnf
      have h5 := more hu
      have e : outS ([] ++ [((u % 128 + 128 : Nat) : Int)]) (u / 128) = ⟨[(3, .hdr 0 []), (4, .sc (.int .u64 (u / 128 : Nat)))], [(0, some ⟨byteC ([] ++ [((u % 128 + 128 : Nat) : Int)]), true, 1, false⟩)], 1, 22, 0⟩ := rfl
      rw [e, ← byteC_snoc, ← impl_q (u := u) (by omega), ← or128] at h5
      exact h5
    · have hu : u < 128 := by have := of_decide_eq_false h; dsimp only at this; omega
      conv => whnf
      refine ⟨oneB _, ?_⟩
      conv => whnf
      refine ⟨?_, rfl⟩
      rw [vb_last hu] at h2
      show [V.own true 1 (byteC [] ++ [[V.sc (.int .u8 (IntKind.u8.wrap (u : Int)))]])] = _
      rw [u8k (by omega), byteC_snoc, h2]
  | cons a l =>
    conv => whnf
    refine ifP_of (fun h => ?_) (fun h => ?_)
    · have hu : 128 ≤ u := by have := of_decide_eq_true h; dsimp only at this; omega
      conv => whnf
      refine ⟨oneB _, ?_⟩
      conv => whnf
      refine chkP_of (decide_eq_true (rowLe (l := a :: l) (n := n) (by omega) hn rfl)) ?_
      conv => whnf
      have h5 := more hu
      have e : outS ((a :: l) ++ [((u % 128 + 128 : Nat) : Int)]) (u / 128) = ⟨[(3, .hdr 0 []), (4, .sc (.int .u64 (u / 128 : Nat)))], [(0, some ⟨byteC ((a :: l) ++ [((u % 128 + 128 : Nat) : Int)]), true, 1, false⟩)], 1, 22, 0⟩ := rfl
      rw [e, ← byteC_snoc, ← impl_q (u := u) (by omega), ← or128] at h5
      exact h5
    · have hu : u < 128 := by have := of_decide_eq_false h; dsimp only at this; omega
      conv => whnf
      refine ⟨oneB _, ?_⟩
      conv => whnf
      refine chkP_of (decide_eq_true (rowLe (l := a :: l) (n := n) (by omega) hn rfl)) ?_
      conv => whnf
      refine ⟨?_, rfl⟩
      rw [vb_last hu] at h2
      show [V.own true 1 (byteC (a :: l) ++ [[V.sc (.int .u8 (IntKind.u8.wrap (u : Int)))]])] = _
      rw [u8k (by omega), byteC_snoc, h2]
end Ev
open Go Ev
open Go.Proofs
set_option maxRecDepth 100000
set_option maxHeartbeats 4000000
set_option linter.unusedVariables false
namespace Ev
/-- A number's 64 bits. -/
def u64N (n : Int) : Nat := (n % 18446744073709551616).toNat
theorem u64N_lt (n : Int) : u64N n < 18446744073709551616 := by unfold u64N; omega
theorem u64N_wrap (n : Int) : IntKind.u64.wrap n = (u64N n : Int) := by unfold u64N; show n % 18446744073709551616 = _; omega
theorem u64N_nat {n : Nat} (h : n < 18446744073709551616) : u64N n = n := by unfold u64N; omega
theorem vb_le : ∀ (k n : Nat), n < 128 ^ (k + 1) → (vb n).length ≤ k + 1
  | 0, n, h => by rw [vb_last (by omega)]; simp
  | k + 1, n, h => by
    by_cases h1 : n < 128
    · rw [vb_last h1]; simp
    · rw [vb_more (by omega), List.length_cons]
      have := vb_le k (n / 128) (by rw [Nat.pow_succ] at h; omega)
      omega
theorem vb_ten {n : Nat} (h : n < 18446744073709551616) : (vb n).length ≤ 10 := vb_le 9 n (Nat.lt_trans h (by decide))
theorem rowTen {l m : List Int} {u : Nat} {k : Nat} (h : l ++ m = vb u) (hu : u < 18446744073709551616) (hk : k = 1) : ((byteC l).length + k) * 1 ≤ 140737488355328 := by
  have h1 := vb_ten hu
  rw [← h, List.length_append] at h1
  rw [byteC_len, hk]; omega
theorem specPutV (n : Int) : Fn Tryd.prog [] 22 [.sc (.int .i64 n)] [] (ret [.own true 1 (byteC (vb (u64N n)))] []) := by
  refine fn_of Tryd.func22 (by kernel_rfl) ?_
  have hlt := u64N_lt n
  have hwr := u64N_wrap n
  generalize u64N n = u0 at *
  conv => whnf
  rw [hwr]
  refine loop_of (A := List Int × Nat) (fun x => ⟨[(3, .sc (.int .u64 x.2)), (4, .hdr 0 [])], [(0, some ⟨byteC x.1, true, 1, false⟩)], 1, 24, 0⟩) (fun x => x.2) (fun x => x.2 < 18446744073709551616 ∧ x.1 ++ vb x.2 = vb u0) ([], u0) rfl ⟨hlt, by simp⟩ ?_
  intro ⟨out, u⟩ ⟨h1, h2⟩ X ih
  dsimp only at h1 h2
  conv => whnf
  refine ifP_of (fun h => ?_) (fun h => ?_)
  · have hu : 128 ≤ u := by have := of_decide_eq_true h; dsimp only at this; omega
    conv => whnf
    refine ⟨oneB _, ?_⟩
    conv => whnf
    refine chkP_of (decide_eq_true (rowTen (l := out) h2 hlt rfl)) ?_
    conv => whnf
    have h5 := ih (out ++ [((u % 128 + 128 : Nat) : Int)], u / 128) ⟨by dsimp only; omega, by dsimp only; rw [← h2, vb_more hu, List.append_assoc]; rfl⟩ (by dsimp only; omega)
    dsimp only at h5
    rw [← byteC_snoc, ← spec_q (u := u) (by omega), ← spec_b] at h5
    exact h5
  · have hu : u < 128 := by have := of_decide_eq_false h; dsimp only at this; omega
    conv => whnf
    refine ⟨oneB _, ?_⟩
    conv => whnf
    refine chkP_of (decide_eq_true (rowTen (l := out) h2 hlt rfl)) ?_
    conv => whnf
    refine ⟨?_, rfl⟩
    rw [vb_last hu] at h2
    show [V.own true 1 (byteC out ++ [[V.sc (.int .u8 (IntKind.u8.wrap (u : Int)))]])] = _
    rw [u8k (by omega), byteC_snoc, h2]

theorem implPutV (n : Int) : Fn Tryd.prog [] 28 [.sc (.int .i64 n)] [] (ret [.own true 1 (byteC (vb (u64N n)))] []) := by
  refine fn_of Tryd.func28 (by kernel_rfl) ?_
  have hlt := u64N_lt n
  have hwr := u64N_wrap n
  generalize u64N n = u0 at *
  conv => whnf
  rw [hwr]
  refine loop_of (A := List Int × Nat) (fun x => outS x.1 x.2) (fun x => x.2) (fun x => x.2 < 18446744073709551616 ∧ x.1 ++ vb x.2 = vb u0) ([], u0) rfl ⟨hlt, by simp⟩ ?_
  intro ⟨out, u⟩ ⟨h1, h2⟩ X ih
  dsimp only at h1 h2
  have more : 128 ≤ u → X (outS (out ++ [((u % 128 + 128 : Nat) : Int)]) (u / 128)) := fun hu => ih (out ++ [((u % 128 + 128 : Nat) : Int)], u / 128) ⟨by dsimp only; omega, by dsimp only; rw [← h2, vb_more hu, List.append_assoc]; rfl⟩ (by dsimp only; omega)
  cases out with
  | nil =>
    conv => whnf
    refine ifP_of (fun h => ?_) (fun h => ?_)
    · have hu : 128 ≤ u := by have := of_decide_eq_true h; dsimp only at this; omega
      conv => whnf
      refine ⟨oneB _, ?_⟩
      conv => whnf
      have h5 := more hu
      have e : outS ([] ++ [((u % 128 + 128 : Nat) : Int)]) (u / 128) = ⟨[(3, .hdr 0 []), (4, .sc (.int .u64 (u / 128 : Nat)))], [(0, some ⟨byteC ([] ++ [((u % 128 + 128 : Nat) : Int)]), true, 1, false⟩)], 1, 22, 0⟩ := rfl
      rw [e, ← byteC_snoc, ← impl_q (u := u) (by omega), ← or128] at h5
      exact h5
    · have hu : u < 128 := by have := of_decide_eq_false h; dsimp only at this; omega
      conv => whnf
      refine ⟨oneB _, ?_⟩
      conv => whnf
      refine ⟨?_, rfl⟩
      rw [vb_last hu] at h2
      show [V.own true 1 (byteC [] ++ [[V.sc (.int .u8 (IntKind.u8.wrap (u : Int)))]])] = _
      rw [u8k (by omega), byteC_snoc, h2]
  | cons a l =>
    conv => whnf
    refine ifP_of (fun h => ?_) (fun h => ?_)
    · have hu : 128 ≤ u := by have := of_decide_eq_true h; dsimp only at this; omega
      conv => whnf
      refine ⟨oneB _, ?_⟩
      conv => whnf
      refine chkP_of (decide_eq_true (rowTen (l := a :: l) h2 hlt rfl)) ?_
      conv => whnf
      have h5 := more hu
      have e : outS ((a :: l) ++ [((u % 128 + 128 : Nat) : Int)]) (u / 128) = ⟨[(3, .hdr 0 []), (4, .sc (.int .u64 (u / 128 : Nat)))], [(0, some ⟨byteC ((a :: l) ++ [((u % 128 + 128 : Nat) : Int)]), true, 1, false⟩)], 1, 22, 0⟩ := rfl
      rw [e, ← byteC_snoc, ← impl_q (u := u) (by omega), ← or128] at h5
      exact h5
    · have hu : u < 128 := by have := of_decide_eq_false h; dsimp only at this; omega
      conv => whnf
      refine ⟨oneB _, ?_⟩
      conv => whnf
      refine chkP_of (decide_eq_true (rowTen (l := a :: l) h2 hlt rfl)) ?_
      conv => whnf
      refine ⟨?_, rfl⟩
      rw [vb_last hu] at h2
      show [V.own true 1 (byteC (a :: l) ++ [[V.sc (.int .u8 (IntKind.u8.wrap (u : Int)))]])] = _
      rw [u8k (by omega), byteC_snoc, h2]
end Ev
open Go Ev
open Go.Proofs
set_option maxRecDepth 100000
set_option maxHeartbeats 4000000
set_option linter.unusedVariables false
namespace Ev
def fixB : Nat → Nat → List Int
  | 0, _ => []
  | n + 1, u => ((u % 256 : Nat) : Int) :: fixB n (u / 256)
theorem fixB_len : ∀ n u, (fixB n u).length = n
  | 0, _ => rfl
  | n + 1, u => by rw [fixB, List.length_cons, fixB_len]
theorem fix_spec {u : Nat} : IntKind.u8.wrap ((u : Int).tmod 256) = ((u % 256 : Nat) : Int) := by
  rw [Int.tmod_eq_emod_of_nonneg (by omega), IntKind.wrap_u8]; omega
theorem fix_quo {u : Nat} (h : u < 18446744073709551616) : IntKind.u64.wrap ((u : Int).tdiv 256) = ((u / 256 : Nat) : Int) := by
  rw [Int.tdiv_eq_ediv_of_nonneg (by omega), show (u : Int) / 256 = ((u / 256 : Nat) : Int) by omega, wrapU (by omega)]
theorem one_bytes {d own : Bool} (l : List Int) : OneEs d own (byteC l) := fun e he v hv => by
  unfold byteC at he
  obtain ⟨n, _, rfl⟩ := List.mem_map.1 he
  obtain rfl := List.mem_singleton.1 hv
  rfl
theorem byteC_app (l m : List Int) : byteC (l ++ m) = byteC l ++ byteC m := by unfold byteC; rw [List.map_append]
theorem fixB_snoc : ∀ (k u : Nat), fixB (k + 1) u = fixB k u ++ [((u / 256 ^ k % 256 : Nat) : Int)]
  | 0, u => by simp [fixB]
  | k + 1, u => by
    have h := fixB_snoc k (u / 256)
    have e : u / 256 / 256 ^ k = u / 256 ^ (k + 1) := by rw [Nat.div_div_eq_div_mul, Nat.pow_succ, Nat.mul_comm]
    rw [e] at h
    show ((u % 256 : Nat) : Int) :: fixB (k + 1) (u / 256) = _
    rw [h]
    rfl
theorem specPutF4 (x : Int) : Fn Tryd.prog [] 21 [.sc (.int .i64 x), .sc (.int .i64 4)] [] (ret [.own true 1 (byteC (fixB 4 (u64N x)))] []) := by
  have hx := u64N_wrap x
  have hu := u64N_lt x
  generalize u64N x = u0 at *
  refine fn_of Tryd.func21 (by kernel_rfl) ?_
  conv => whnf
  rw [hx]
  refine loop_of (A := Nat) (fun k => ⟨[(1, .sc (.int .i64 4)), (5, .hdr 0 []), (6, .sc (.int .u64 (u0 / 256 ^ k : Nat))), (7, .sc (.int .i64 k))], [(0, some ⟨byteC (fixB k u0), dpOf (cx 21) 5, 1, false⟩)], 1, Tryd.f21.ntmps, 0⟩) (fun k => 4 - k) (fun k => k ≤ 4) 0 (by rw [Nat.pow_zero, Nat.div_one]; rfl) (by decide) ?_
  intro k X hk ih
  conv => whnf
  refine ifP_of (fun h => ?_) (fun h => ?_)
  · have hk4 : k < 4 := by
      have := of_decide_eq_true h
      omega
    have ih := ih (k + 1) (by omega) (by omega)
    rw [fixB_snoc, byteC_app] at ih
    have hl : (byteC (fixB k u0)).length = k := by unfold byteC; rw [List.length_map, fixB_len]
    have hlt : u0 / 256 ^ k < 18446744073709551616 := Nat.lt_of_le_of_lt (Nat.div_le_self _ _) hu
    have hq : u0 / 256 ^ (k + 1) = u0 / 256 ^ k / 256 := by rw [Nat.pow_succ, Nat.div_div_eq_div_mul]
    rw [hq] at ih
    generalize byteC (fixB k u0) = es at *
    generalize u0 / 256 ^ k = u at *
    have h5 := fix_spec (u := u)
    have h6 := fix_quo hlt
    have hc : ((es.length + 1) * 1) ≤ 140737488355328 := by omega
    have hk1 : IntKind.i64.wrap ((k : Int) + 1) = ((k + 1 : Nat) : Int) := by rw [IntKind.wrap_i64]; omega
    rw [← h5, ← h6, ← hk1] at ih
    clear h
    conv => whnf
    refine ⟨fun e he v hv => by obtain rfl := List.mem_singleton.1 he; obtain rfl := List.mem_singleton.1 hv; rfl, ?_⟩
    conv => whnf
    refine chkP_of ?hchk ?_
    case hchk => first | exact decide_eq_true (by omega) | (simp; done) | (simp; omega) | exact decide_eq_true hc
    conv => whnf
    exact ih
  · have hk4 : k = 4 := by have : ¬ ((k : Int) < 4) := by simpa using h
                           omega
    subst hk4
    clear ih
    conv => whnf
    exact ⟨rfl, rfl⟩
theorem specPutF8 (x : Int) : Fn Tryd.prog [] 21 [.sc (.int .i64 x), .sc (.int .i64 8)] [] (ret [.own true 1 (byteC (fixB 8 (u64N x)))] []) := by
  have hx := u64N_wrap x
  have hu := u64N_lt x
  generalize u64N x = u0 at *
  refine fn_of Tryd.func21 (by kernel_rfl) ?_
  conv => whnf
  rw [hx]
  refine loop_of (A := Nat) (fun k => ⟨[(1, .sc (.int .i64 8)), (5, .hdr 0 []), (6, .sc (.int .u64 (u0 / 256 ^ k : Nat))), (7, .sc (.int .i64 k))], [(0, some ⟨byteC (fixB k u0), dpOf (cx 21) 5, 1, false⟩)], 1, Tryd.f21.ntmps, 0⟩) (fun k => 8 - k) (fun k => k ≤ 8) 0 (by rw [Nat.pow_zero, Nat.div_one]; rfl) (by decide) ?_
  intro k X hk ih
  conv => whnf
  refine ifP_of (fun h => ?_) (fun h => ?_)
  · have hk4 : k < 8 := by
      have := of_decide_eq_true h
      omega
    have ih := ih (k + 1) (by omega) (by omega)
    rw [fixB_snoc, byteC_app] at ih
    have hl : (byteC (fixB k u0)).length = k := by unfold byteC; rw [List.length_map, fixB_len]
    have hlt : u0 / 256 ^ k < 18446744073709551616 := Nat.lt_of_le_of_lt (Nat.div_le_self _ _) hu
    have hq : u0 / 256 ^ (k + 1) = u0 / 256 ^ k / 256 := by rw [Nat.pow_succ, Nat.div_div_eq_div_mul]
    rw [hq] at ih
    generalize byteC (fixB k u0) = es at *
    generalize u0 / 256 ^ k = u at *
    have h5 := fix_spec (u := u)
    have h6 := fix_quo hlt
    have hc : ((es.length + 1) * 1) ≤ 140737488355328 := by omega
    have hk1 : IntKind.i64.wrap ((k : Int) + 1) = ((k + 1 : Nat) : Int) := by rw [IntKind.wrap_i64]; omega
    rw [← h5, ← h6, ← hk1] at ih
    clear h
    conv => whnf
    refine ⟨fun e he v hv => by obtain rfl := List.mem_singleton.1 he; obtain rfl := List.mem_singleton.1 hv; rfl, ?_⟩
    conv => whnf
    refine chkP_of ?hchk ?_
    case hchk => first | exact decide_eq_true (by omega) | (simp; done) | (simp; omega) | exact decide_eq_true hc
    conv => whnf
    exact ih
  · have hk4 : k = 8 := by have : ¬ ((k : Int) < 8) := by simpa using h
                           omega
    subst hk4
    clear ih
    conv => whnf
    exact ⟨rfl, rfl⟩
theorem shift_b (n : Int) {k : Nat} (hk : k < 8) : IntKind.u8.wrap (n.fdiv (2 ^ (min ((8 * k : Nat) : Int).toNat IntKind.i64.bits))) = ((u64N n / 256 ^ k % 256 : Nat) : Int) := by
  have hb : IntKind.i64.bits = 64 := rfl
  rw [hb, show min ((8 * k : Nat) : Int).toNat 64 = 8 * k by omega, IntKind.wrap_u8, Int.fdiv_eq_ediv_of_nonneg _ (Int.le_of_lt (Int.pow_pos (by decide)))]
  unfold u64N
  match k, hk with
  | 0, _ => simp; omega
  | 1, _ => show n / 256 % 256 = (((n % 18446744073709551616).toNat / 256 % 256 : Nat) : Int); omega
  | 2, _ => show n / 65536 % 256 = (((n % 18446744073709551616).toNat / 65536 % 256 : Nat) : Int); omega
  | 3, _ => show n / 16777216 % 256 = (((n % 18446744073709551616).toNat / 16777216 % 256 : Nat) : Int); omega
  | 4, _ => show n / 4294967296 % 256 = (((n % 18446744073709551616).toNat / 4294967296 % 256 : Nat) : Int); omega
  | 5, _ => show n / 1099511627776 % 256 = (((n % 18446744073709551616).toNat / 1099511627776 % 256 : Nat) : Int); omega
  | 6, _ => show n / 281474976710656 % 256 = (((n % 18446744073709551616).toNat / 281474976710656 % 256 : Nat) : Int); omega
  | 7, _ => show n / 72057594037927936 % 256 = (((n % 18446744073709551616).toNat / 72057594037927936 % 256 : Nat) : Int); omega
theorem implPutF4 (x : Int) : Fn Tryd.prog [] 27 [.sc (.int .i64 x), .sc (.int .i64 4)] [] (ret [.own true 1 (byteC (fixB 4 (u64N x)))] []) := by
  refine fn_of Tryd.func27 (by kernel_rfl) ?_
  conv => whnf
  refine loop_of (A := Nat) (fun k => ⟨[(0, .sc (.int .i64 x)), (1, .sc (.int .i64 4)), (5, .hdr 0 []), (6, .sc (.int .i64 k))], [(0, some ⟨byteC (fixB k (u64N x)), true, 1, false⟩)], 1, 27, 0⟩) (fun k => 4 - k) (fun k => k ≤ 4) 0 rfl (by decide) ?_
  intro k hk X ih
  conv => whnf
  refine ifP_of (fun h => ?_) (fun h => ?_)
  · have hk4 : k < 4 := by
      have := of_decide_eq_true h
      omega
    have ih := ih (k + 1) (by omega) (by omega)
    rw [fixB_snoc, byteC_app] at ih
    have hl : (byteC (fixB k (u64N x))).length = k := by rw [byteC_len, fixB_len]
    have h5 := shift_b x (k := k) (by omega)
    generalize byteC (fixB k (u64N x)) = es at *
    have hc : ((es.length + 1) * 1) ≤ 140737488355328 := by omega
    have hk1 : IntKind.i64.wrap ((k : Int) + 1) = ((k + 1 : Nat) : Int) := by rw [IntKind.wrap_i64]; omega
    rw [← h5, ← hk1] at ih
    have h8 : IntKind.i64.wrap (8 * (k : Int)) = ((8 * k : Nat) : Int) := by rw [wrap64 (by omega) (by omega)]; omega
    clear h
    conv => whnf
    rw [h8]
    conv => whnf
    refine ⟨oneB _, ?_⟩
    conv => whnf
    refine chkP_of ?hchk ?_
    case hchk => first | exact decide_eq_true (by omega) | (simp; done) | (simp; omega) | exact decide_eq_true hc
    conv => whnf
    exact ih
  · have hk4 : k = 4 := by have : ¬ ((k : Int) < 4) := by simpa using h
                           omega
    subst hk4
    clear ih
    conv => whnf
    exact ⟨rfl, rfl⟩
theorem implPutF8 (x : Int) : Fn Tryd.prog [] 27 [.sc (.int .i64 x), .sc (.int .i64 8)] [] (ret [.own true 1 (byteC (fixB 8 (u64N x)))] []) := by
  refine fn_of Tryd.func27 (by kernel_rfl) ?_
  conv => whnf
  refine loop_of (A := Nat) (fun k => ⟨[(0, .sc (.int .i64 x)), (1, .sc (.int .i64 8)), (5, .hdr 0 []), (6, .sc (.int .i64 k))], [(0, some ⟨byteC (fixB k (u64N x)), true, 1, false⟩)], 1, 27, 0⟩) (fun k => 8 - k) (fun k => k ≤ 8) 0 rfl (by decide) ?_
  intro k hk X ih
  conv => whnf
  refine ifP_of (fun h => ?_) (fun h => ?_)
  · have hk4 : k < 8 := by
      have := of_decide_eq_true h
      omega
    have ih := ih (k + 1) (by omega) (by omega)
    rw [fixB_snoc, byteC_app] at ih
    have hl : (byteC (fixB k (u64N x))).length = k := by rw [byteC_len, fixB_len]
    have h5 := shift_b x (k := k) (by omega)
    generalize byteC (fixB k (u64N x)) = es at *
    have hc : ((es.length + 1) * 1) ≤ 140737488355328 := by omega
    have hk1 : IntKind.i64.wrap ((k : Int) + 1) = ((k + 1 : Nat) : Int) := by rw [IntKind.wrap_i64]; omega
    rw [← h5, ← hk1] at ih
    have h8 : IntKind.i64.wrap (8 * (k : Int)) = ((8 * k : Nat) : Int) := by rw [wrap64 (by omega) (by omega)]; omega
    clear h
    conv => whnf
    rw [h8]
    conv => whnf
    refine ⟨oneB _, ?_⟩
    conv => whnf
    refine chkP_of ?hchk ?_
    case hchk => first | exact decide_eq_true (by omega) | (simp; done) | (simp; omega) | exact decide_eq_true hc
    conv => whnf
    exact ih
  · have hk4 : k = 8 := by have : ¬ ((k : Int) < 8) := by simpa using h
                           omega
    subst hk4
    clear ih
    conv => whnf
    exact ⟨rfl, rfl⟩
end Ev
open Go Ev
open Go.Proofs
set_option maxRecDepth 100000
set_option maxHeartbeats 4000000
set_option linter.unusedVariables false
namespace Ev
theorem kind_cases {P : Int → Prop} (h1 : P 1) (h2 : P 2) (h3 : P 3) (h4 : P 4) (h5 : P 5) (h6 : P 6) (h7 : P 7) (h8 : P 8) (h9 : P 9) (h10 : P 10) (h11 : P 11) (h12 : P 12) (h13 : P 13) (h14 : P 14) (h15 : P 15) (h16 : P 16) (h17 : P 17) (ho : ∀ k, (∀ c : Int, 1 ≤ c → c ≤ 17 → (k == c) = false) → P k) (k : Int) : P k := by
  by_cases h : 1 ≤ k ∧ k ≤ 17
  · have : k = 1 ∨ k = 2 ∨ k = 3 ∨ k = 4 ∨ k = 5 ∨ k = 6 ∨ k = 7 ∨ k = 8 ∨ k = 9 ∨ k = 10 ∨ k = 11 ∨ k = 12 ∨ k = 13 ∨ k = 14 ∨ k = 15 ∨ k = 16 ∨ k = 17 := by omega
    rcases this with rfl | rfl | rfl | rfl | rfl | rfl | rfl | rfl | rfl | rfl | rfl | rfl | rfl | rfl | rfl | rfl | rfl <;> assumption
  · exact ho k fun c h1 h2 => by
      simp only [beq_eq_false_iff_ne, ne_eq]; omega
/-- Whether a number is right for a kind. -/
def rangeB (k n : Int) : Bool := if k = 1 ∨ k = 5 ∨ k = 10 ∨ k = 17 then inB n (-2147483648) 2147483647 else if k = 3 ∨ k = 8 ∨ k = 12 then inB n 0 4294967295 else if k = 7 then inB n 0 1 else if k = 14 ∨ k = 15 ∨ k = 16 then n == 0 else true
/-- The same where a kind without a number is right whatever it has. -/
def numRB (k n : Int) : Bool := if k = 1 ∨ k = 5 ∨ k = 10 ∨ k = 17 then inB n (-2147483648) 2147483647 else if k = 3 ∨ k = 8 ∨ k = 12 then inB n 0 4294967295 else if k = 7 then inB n 0 1 else true
theorem specRange (k n : Int) : Fn Tryd.prog [] 46 [.sc (.int .i64 k), .sc (.int .i64 n)] [] (ret [.sc (.bool (rangeB k n))] []) := by
  revert k
  refine kind_cases ?_ ?_ ?_ ?_ ?_ ?_ ?_ ?_ ?_ ?_ ?_ ?_ ?_ ?_ ?_ ?_ ?_ (fun k ho => ?_)
  rotate_right
  · have e : rangeB k n = true := by
      have h : ∀ c : Int, 1 ≤ c → c ≤ 17 → ¬ k = c := fun c h1 h2 => by simpa using ho c h1 h2
      unfold rangeB
      rw [if_neg, if_neg, if_neg, if_neg] <;> simp [h]
    rw [e]
    refine fn_of Tryd.func46 (by kernel_rfl) ?_
    conv => whnf
    repeat' (first
      | (refine ifP_no (ho _ (by decide) (by decide)) ?_; (conv => whnf)))
    exact ⟨rfl, rfl⟩
  all_goals
    have HI := specIn n (-2147483648) 2147483647
    have HJ := specIn n 0 4294967295
    have HK := specIn n 0 1
    refine fn_of Tryd.func46 (by kernel_rfl) ?_
    conv => whnf
    first
      | exact ⟨rfl, rfl⟩
      | (refine Fn.use HI ?_; (conv => whnf); refine ⟨trivial, ?_⟩; (conv => whnf); exact ⟨rfl, rfl⟩)
      | (refine Fn.use HJ ?_; (conv => whnf); refine ⟨trivial, ?_⟩; (conv => whnf); exact ⟨rfl, rfl⟩)
      | (refine Fn.use HK ?_; (conv => whnf); refine ⟨trivial, ?_⟩; (conv => whnf); exact ⟨rfl, rfl⟩)
theorem implNumRight (k n : Int) : Fn Tryd.prog [] 54 [.sc (.int .i64 k), .sc (.int .i64 n)] [] (ret [.sc (.bool (numRB k n))] []) := by
  revert k
  refine kind_cases ?_ ?_ ?_ ?_ ?_ ?_ ?_ ?_ ?_ ?_ ?_ ?_ ?_ ?_ ?_ ?_ ?_ (fun k ho => ?_)
  rotate_right
  · have e : numRB k n = true := by
      have h : ∀ c : Int, 1 ≤ c → c ≤ 17 → ¬ k = c := fun c h1 h2 => by simpa using ho c h1 h2
      unfold numRB
      rw [if_neg, if_neg, if_neg] <;> simp [h]
    rw [e]
    refine fn_of Tryd.func54 (by kernel_rfl) ?_
    conv => whnf
    repeat' (first
      | (refine ifP_no (ho _ (by decide) (by decide)) ?_; (conv => whnf)))
    exact ⟨rfl, rfl⟩
  all_goals
    have HI := implIn n (-2147483648) 2147483647
    have HJ := implIn n 0 4294967295
    have HK := implIn n 0 1
    refine fn_of Tryd.func54 (by kernel_rfl) ?_
    conv => whnf
    first
      | exact ⟨rfl, rfl⟩
      | (refine Fn.use HI ?_; (conv => whnf); refine ⟨trivial, ?_⟩; (conv => whnf); exact ⟨rfl, rfl⟩)
      | (refine Fn.use HJ ?_; (conv => whnf); refine ⟨trivial, ?_⟩; (conv => whnf); exact ⟨rfl, rfl⟩)
      | (refine Fn.use HK ?_; (conv => whnf); refine ⟨trivial, ?_⟩; (conv => whnf); exact ⟨rfl, rfl⟩)
def emptyB (m : Msg) : Bool := (m.items.length == 0) && (m.unk.length == 0)
theorem len0 (n : Nat) : ((n : Int) == 0) = (n == 0) := by
  rw [Bool.eq_iff_iff]; simp
theorem specEmpty (m : Msg) : Fn Tryd.prog [] 47 [.agg m.acells] [] (ret [.sc (.bool (emptyB m))] []) := by
  obtain ⟨items, unk⟩ := m
  have h1 := Item.css_len items
  have h2 := byteC_len unk
  have hr : emptyB ⟨items, unk⟩ = ((items.length == 0) && (unk.length == 0)) := rfl
  rw [hr, ← len0, ← len0]
  refine fn_of Tryd.func47 (by kernel_rfl) ?_
  conv => whnf
  rw [h1]
  refine ifP_of (fun h => ?_) (fun h => ?_)
  · have h : ((items.length : Int) == 0) = true := h
    rw [h]
    conv => whnf
    rw [h2]
    exact ⟨rfl, rfl⟩
  · have h : ((items.length : Int) == 0) = false := h
    rw [h]
    conv => whnf
    exact ⟨rfl, rfl⟩
theorem implEmpty (m : Msg) : Fn Tryd.prog [] 51 [.agg m.acells] [] (ret [.sc (.bool (emptyB m))] []) := by
  obtain ⟨items, unk⟩ := m
  have h1 := Item.css_len items
  have h2 := byteC_len unk
  have hr : emptyB ⟨items, unk⟩ = ((items.length == 0) && (unk.length == 0)) := rfl
  rw [hr, ← len0, ← len0]
  refine fn_of Tryd.func51 (by kernel_rfl) ?_
  conv => whnf
  rw [h1]
  refine ifP_of (fun h => ?_) (fun h => ?_)
  · have h : ((items.length : Int) == 0) = true := h
    rw [h]
    conv => whnf
    rw [h2]
    exact ⟨rfl, rfl⟩
  · have h : ((items.length : Int) == 0) = false := h
    rw [h]
    conv => whnf
    exact ⟨rfl, rfl⟩
end Ev
open Go Ev
open Go.Proofs
set_option maxRecDepth 100000
set_option maxHeartbeats 4000000
set_option linter.unusedVariables false
namespace Ev
/-- A kind's number is right where the reference says so; its text and what is within it, too. -/
def valB (u : ByteArray → Bool) (k : Int) (v : Val) : Bool := !(!rangeB k v.n || ((k != 14 && k != 15) && !decide (v.text = .empty))) && (!(k != 16 && !emptyB v.sub) && ((k != 14) || u v.text))
variable {G : List (Addr × Value)}
theorem specValG (u : ByteArray → Bool) (k : Int) (v : Val) (HU : Fn Tryd.prog G 48 [.sc (.string v.text)] [] (ret [.sc (.bool (u v.text))] [])) : Fn Tryd.prog G 20 [.sc (.int .i64 k), .agg v.acells] [] (ret [.sc (.bool (valB u k v))] []) := by
  have HR := (specRange k v.n).wk (G := G)
  have HE := (specEmpty v.sub).wk (G := G)
  have hr : valB u k v = (!(!rangeB k v.n || ((k != 14 && k != 15) && !decide (v.text = .empty))) && (!(k != 16 && !emptyB v.sub) && ((k != 14) || u v.text))) := rfl
  obtain ⟨n, text, items, unk⟩ := v
  have hs : Val.sub ⟨n, text, items, unk⟩ = ⟨items, unk⟩ := rfl
  rw [hs] at HE hr
  dsimp only at HR hr HU
  generalize valB u k ⟨n, text, items, unk⟩ = R at *
  generalize rangeB k n = a at *
  generalize emptyB ⟨items, unk⟩ = e at *
  generalize u text = ut at *
  rw [← bytes_eq] at hr
  refine fn_ofG Tryd.func20 (by kernel_rfl) ?_
  conv => whnf
  refine Fn.use (HR) ?_
  conv => whnf
  first | refine ⟨trivial, ?_⟩ | refine ⟨⟨rfl, clr_of rfl⟩, ?_⟩
  conv => whnf
  generalize hc1 : (k != 14) = c1 at *
  generalize hc2 : (k != 15) = c2 at *
  generalize hc3 : (k != 16) = c3 at *
  have hc1 : (!(k == 14)) = c1 := hc1
  have hc2 : (!(k == 15)) = c2 := hc2
  have hc3 : (!(k == 16)) = c3 := hc3
  clear HR
  repeat' (first
    | (refine Fn.use (HE) ?_; (conv => whnf); (first | refine ⟨trivial, ?_⟩ | refine ⟨⟨rfl, clr_of rfl⟩, ?_⟩); (conv => whnf))
    | (refine Fn.use (HU) ?_; (conv => whnf); (first | refine ⟨trivial, ?_⟩ | refine ⟨⟨rfl, clr_of rfl⟩, ?_⟩); (conv => whnf))
    | (refine chkP_of ?hchk ?_; (case hchk => simp; done); (conv => whnf))
    | (refine ifP_of (fun _ => ?_) (fun _ => ?_) <;> (conv => whnf)))
  all_goals
    clear HE HU
    refine ⟨bl ?_, rfl⟩
    rw [hr]
    simp_all
/-- The same, as the program has it. -/
def valI (u : ByteArray → Bool) (k : Int) (v : Val) : Bool := if k = 14 ∨ k = 15 then (v.n == 0) && (emptyB v.sub && ((k == 15) || u v.text)) else if k = 16 then (v.n == 0) && decide (v.text = .empty) else inB k 1 17 && (decide (v.text = .empty) && (emptyB v.sub && numRB k v.n))
theorem implValG (u : ByteArray → Bool) (k : Int) (v : Val) (HU : Fn Tryd.prog G 52 [.sc (.string v.text)] [] (ret [.sc (.bool (u v.text))] [])) : Fn Tryd.prog G 25 [.sc (.int .i64 k), .agg v.acells] [] (ret [.sc (.bool (valI u k v))] []) := by
  have HN := (implNumRight k v.n).wk (G := G)
  have HE := (implEmpty v.sub).wk (G := G)
  have HW := (implIn k 1 17).wk (G := G)
  have hr : valI u k v = if k = 14 ∨ k = 15 then (v.n == 0) && (emptyB v.sub && ((k == 15) || u v.text)) else if k = 16 then (v.n == 0) && decide (v.text = .empty) else inB k 1 17 && (decide (v.text = .empty) && (emptyB v.sub && numRB k v.n)) := rfl
  obtain ⟨n, text, items, unk⟩ := v
  have hs : Val.sub ⟨n, text, items, unk⟩ = ⟨items, unk⟩ := rfl
  rw [hs] at HE hr
  dsimp only at HN hr HU
  generalize valI u k ⟨n, text, items, unk⟩ = R at *
  generalize numRB k n = a at *
  generalize emptyB ⟨items, unk⟩ = e at *
  generalize u text = ut at *
  generalize inB k 1 17 = w at *
  rw [← bytes_eq] at hr
  refine fn_ofG Tryd.func25 (by kernel_rfl) ?_
  conv => whnf
  repeat' (first
    | (refine Fn.use (HE) ?_; (conv => whnf); (first | refine ⟨trivial, ?_⟩ | refine ⟨⟨rfl, clr_of rfl⟩, ?_⟩); (conv => whnf))
    | (refine Fn.use (HU) ?_; (conv => whnf); (first | refine ⟨trivial, ?_⟩ | refine ⟨⟨rfl, clr_of rfl⟩, ?_⟩); (conv => whnf))
    | (refine Fn.use (HN) ?_; (conv => whnf); (first | refine ⟨trivial, ?_⟩ | refine ⟨⟨rfl, clr_of rfl⟩, ?_⟩); (conv => whnf))
    | (refine Fn.use (HW) ?_; (conv => whnf); (first | refine ⟨trivial, ?_⟩ | refine ⟨⟨rfl, clr_of rfl⟩, ?_⟩); (conv => whnf))
    | (refine chkP_of ?hchk ?_; (case hchk => simp; done); (conv => whnf))
    | (refine ifP_of (fun _ => ?_) (fun _ => ?_) <;> (conv => whnf)))
  all_goals
    clear HE HU HN HW
    refine ⟨bl ?_, rfl⟩
    rw [hr]
    simp_all
end Ev
open Go Ev
open Go.Proofs
set_option maxRecDepth 100000
set_option maxHeartbeats 4000000
set_option linter.unusedVariables false
namespace Ev
/-- A number with its sign folded in. -/
def zz (n : Int) : Int := IntKind.i64.wrap (if n < 0 then -2 * n - 1 else 2 * n)
theorem wi (n : Int) : IntKind.i64.wrap n = (n + 9223372036854775808) % 18446744073709551616 - 9223372036854775808 := by rw [IntKind.wrap_i64]
theorem wu (n : Int) : IntKind.u64.wrap n = n % 18446744073709551616 := rfl
theorem bv64 (x : Int) : ((BitVec.ofInt 64 x).toNat : Int) = x % 18446744073709551616 := by
  rw [BitVec.toNat_ofInt, Int.toNat_of_nonneg (Int.emod_nonneg _ (by decide))]; rfl
theorem xor0 (x : Int) (h1 : -9223372036854775808 ≤ x) (h2 : x ≤ 9223372036854775807) : IntKind.i64.wrap (((BitVec.ofInt 64 x ^^^ BitVec.ofInt 64 0).toNat : Nat) : Int) = x := by
  rw [show BitVec.ofInt 64 0 = 0#64 from rfl, BitVec.xor_zero, bv64, wi]
  omega
theorem xor1 (x : Int) (h1 : -9223372036854775808 ≤ x) (h2 : x ≤ 9223372036854775807) : IntKind.i64.wrap (((BitVec.ofInt 64 x ^^^ BitVec.ofInt 64 (-1)).toNat : Nat) : Int) = -1 - x := by
  have hl := (BitVec.ofInt 64 x).isLt
  have ht := bv64 x
  rw [show BitVec.ofInt 64 (-1) = BitVec.allOnes 64 by decide, BitVec.xor_allOnes, BitVec.toNat_not, wi]
  omega
theorem specZig (n : Int) (h1 : -9223372036854775808 ≤ n) (h2 : n < 9223372036854775808) : Fn Tryd.prog [] 23 [.sc (.int .i64 n)] [] (ret [.sc (.int .i64 (zz n))] []) := by
  refine fn_of Tryd.func23 (by kernel_rfl) ?_
  conv => whnf
  refine ifP_of (fun h => ?_) (fun h => ?_)
  · have h : n < 0 := of_decide_eq_true h
    conv => whnf
    refine ⟨il ?_, rfl⟩
    unfold zz
    rw [if_pos h]
    simp only [wi, wu]
    omega
  · have h : ¬ n < 0 := of_decide_eq_false h
    conv => whnf
    refine ⟨il ?_, rfl⟩
    unfold zz
    rw [if_neg h]
    simp only [wi, wu]
    omega
theorem implZig (n : Int) (h1 : -9223372036854775808 ≤ n) (h2 : n < 9223372036854775808) : Fn Tryd.prog [] 29 [.sc (.int .i64 n)] [] (ret [.sc (.int .i64 (zz n))] []) := by
  refine fn_of Tryd.func29 (by kernel_rfl) ?_
  conv => whnf
  refine ⟨il ?_, rfl⟩
  have e1 : (2 : Int) ^ min (Int.toNat 1) IntKind.i64.bits = 2 := rfl
  have e2 : (2 : Int) ^ min (Int.toNat 63) IntKind.i64.bits = 9223372036854775808 := by decide
  have e3 : IntKind.i64.bits = 64 := rfl
  rw [e1, e2, e3, Int.fdiv_eq_ediv_of_nonneg _ (by decide)]
  have hw := wi (n * 2)
  unfold zz
  by_cases h : n < 0
  · rw [if_pos h, show n / 9223372036854775808 = -1 by omega, xor1 _ (by omega) (by omega), wi, wi]; omega
  · rw [if_neg h, show n / 9223372036854775808 = 0 by omega, xor0 _ (by omega) (by omega), wi, wi]; omega
theorem val_same {u : ByteArray → Bool} (v : Val) : ∀ k, 1 ≤ k → k ≤ 17 → valB u k v = valI u k v := by
  refine kind_cases ?_ ?_ ?_ ?_ ?_ ?_ ?_ ?_ ?_ ?_ ?_ ?_ ?_ ?_ ?_ ?_ ?_ (fun k ho h1 h2 => ?_)
  rotate_right
  · have := ho k h1 h2
    simp at this
  all_goals
    intro _ _
    unfold valB valI rangeB numRB inB
    generalize emptyB v.sub = e
    generalize u v.text = ut
    generalize decide (v.text = .empty) = t
    cases e <;> cases ut <;> cases t <;> simp
end Ev
open Go Ev
open Go.Proofs
set_option maxRecDepth 100000
set_option maxHeartbeats 4000000
set_option linter.unusedVariables false
namespace Ev
def textB (s : ByteArray) : List Int := s.data.toList.map fun b => ((b.toNat : Nat) : Int)
theorem textB_rows (s : ByteArray) : byteC (textB s) = strRows s := by unfold byteC textB strRows; rw [List.map_map]; rfl
theorem textB_len (s : ByteArray) : (strRows s).length = s.size := by unfold strRows; rw [List.length_map]; simp
/-- The bytes of a value that is no message. -/
def scalB (u : ByteArray → Bool) (k : Int) (v : Val) : List Int := if k = 16 ∨ wireOf k < 0 ∨ valB u k v = false then [] else if wireOf k = 5 then fixB 4 (u64N v.n) else if wireOf k = 1 then fixB 8 (u64N v.n) else if wireOf k = 2 then vb (u64N v.text.size) ++ textB v.text else if k = 5 ∨ k = 6 then vb (u64N (zz v.n)) else vb (u64N v.n)
theorem ol {l m : List Int} (h : l = m) : [V.own true 1 (byteC l)] = [V.own true 1 (byteC m)] := by rw [h]
variable {G : List (Addr × Value)}
theorem specPutScal (u : ByteArray → Bool) (k : Int) (v : Val) (HU : Fn Tryd.prog G 48 [.sc (.string v.text)] [] (ret [.sc (.bool (u v.text))] [])) (ht : v.text.size ≤ 1048576) (h1 : -9223372036854775808 ≤ v.n) (h2 : v.n < 9223372036854775808) : Fn Tryd.prog G 6 [.sc (.int .i64 k), .agg v.acells] [] (ret [.own true 1 (byteC (scalB u k v))] []) := by
  have HV := specValG u k v HU
  have HW := (specWire k).wk (G := G)
  have HZ := (specZig v.n h1 h2).wk (G := G)
  have H4 := (specPutF4 v.n).wk (G := G)
  have H8 := (specPutF8 v.n).wk (G := G)
  have HP := (specPutV v.n).wk (G := G)
  have HQ := (specPutV (zz v.n)).wk (G := G)
  have HT := (specPutV v.text.size).wk (G := G)
  have hr : scalB u k v = if k = 16 ∨ wireOf k < 0 ∨ valB u k v = false then [] else if wireOf k = 5 then fixB 4 (u64N v.n) else if wireOf k = 1 then fixB 8 (u64N v.n) else if wireOf k = 2 then vb (u64N v.text.size) ++ textB v.text else if k = 5 ∨ k = 6 then vb (u64N (zz v.n)) else vb (u64N v.n) := rfl
  generalize scalB u k v = R at *
  generalize valB u k v = a at *
  generalize wireOf k = w at *
  clear HU
  obtain ⟨n, text, items, unk⟩ := v
  dsimp only at *
  have hlt := vb_ten (u64N_lt text.size)
  have hrw := textB_rows text
  have htl := textB_len text
  generalize zz n = z at *
  generalize vb (u64N text.size) = vt at *
  have hc : ((byteC vt).length + (strRows text).length) * 1 ≤ 140737488355328 := by rw [byteC_len, htl]; omega
  have hmid : byteC vt ++ strRows text = byteC (vt ++ textB text) := by rw [byteC_app, hrw]
  generalize vt ++ textB text = vtt at *
  refine fn_ofG Tryd.func6 (by kernel_rfl) ?_
  conv => whnf
  repeat' (first
    | (refine Fn.use (HW) ?_; (conv => whnf); (first | refine ⟨trivial, ?_⟩ | refine ⟨⟨rfl, clr_of rfl⟩, ?_⟩); (conv => whnf))
    | (refine Fn.use (HV) ?_; (conv => whnf); (first | refine ⟨trivial, ?_⟩ | refine ⟨⟨rfl, clr_of rfl⟩, ?_⟩); (conv => whnf))
    | (refine Fn.use (HZ) ?_; (conv => whnf); (first | refine ⟨trivial, ?_⟩ | refine ⟨⟨rfl, clr_of rfl⟩, ?_⟩); (conv => whnf))
    | (refine Fn.use (H4) ?_; (conv => whnf); (first | refine ⟨trivial, ?_⟩ | refine ⟨⟨rfl, clr_of rfl⟩, ?_⟩); (conv => whnf))
    | (refine Fn.use (H8) ?_; (conv => whnf); (first | refine ⟨trivial, ?_⟩ | refine ⟨⟨rfl, clr_of rfl⟩, ?_⟩); (conv => whnf))
    | (refine Fn.use (HP) ?_; (conv => whnf); (first | refine ⟨trivial, ?_⟩ | refine ⟨⟨rfl, clr_of rfl⟩, ?_⟩); (conv => whnf))
    | (refine Fn.use (HQ) ?_; (conv => whnf); (first | refine ⟨trivial, ?_⟩ | refine ⟨⟨rfl, clr_of rfl⟩, ?_⟩); (conv => whnf))
    | (refine Fn.use (HT) ?_; (conv => whnf); (first | refine ⟨trivial, ?_⟩ | refine ⟨⟨rfl, clr_of rfl⟩, ?_⟩); (conv => whnf))
    | (refine chkP_of (decide_eq_true hc) ?_; (conv => whnf))
    | (refine chkP_of ?hchk ?_; (case hchk => simp; done); (conv => whnf))
    | (refine ifP_of (fun _ => ?_) (fun _ => ?_) <;> (conv => whnf)))
  all_goals clear HW HV HZ H4 H8 HP HQ HT
  all_goals first
    | (refine ⟨ol (l := []) ?_, rfl⟩; rw [hr]; simp_all [-Int.not_lt]; done)
    | (refine ⟨ol ?_, rfl⟩; rw [hr]; simp_all [-Int.not_lt]; done)
    | (rw [hmid]; refine ⟨ol ?_, rfl⟩; rw [hr]; simp_all [-Int.not_lt]; done)
end Ev
open Go Ev
open Go.Proofs
set_option maxRecDepth 100000
set_option maxHeartbeats 4000000
set_option linter.unusedVariables false
namespace Ev
variable {G : List (Addr × Value)}
theorem wire_out {k : Int} (h : ¬ (1 ≤ k ∧ k ≤ 17)) : wireOf k < 0 := by
  unfold wireOf
  rw [if_neg (by omega), if_neg (by omega), if_neg (by omega), if_neg (by omega)]; decide
theorem wire_in {k : Int} (h1 : 1 ≤ k) (h2 : k ≤ 17) : ¬ wireOf k < 0 := by
  refine kind_cases (P := fun k => 1 ≤ k → k ≤ 17 → ¬ wireOf k < 0) (by decide) (by decide) (by decide) (by decide) (by decide) (by decide) (by decide) (by decide) (by decide) (by decide) (by decide) (by decide) (by decide) (by decide) (by decide) (by decide) (by decide) (fun k ho h1 h2 => ?_) k h1 h2
  have := ho k h1 h2
  simp at this
theorem val_if (u : ByteArray → Bool) (k : Int) (v : Val) : (k = 16 ∨ wireOf k < 0 ∨ valB u k v = false) ↔ (k = 16 ∨ valI u k v = false) := by
  by_cases h : 1 ≤ k ∧ k ≤ 17
  · rw [val_same v k h.1 h.2]
    have := wire_in h.1 h.2
    constructor
    · rintro (h | h | h)
      · exact .inl h
      · exact absurd h this
      · exact .inr h
    · rintro (h | h)
      · exact .inl h
      · exact .inr (.inr h)
  · have hw := wire_out h
    constructor
    · intro _
      refine .inr ?_
      unfold valI inB
      rw [if_neg (by omega), if_neg (by omega)]
      have : (decide (k ≥ 1) && decide (k ≤ 17)) = false := by
        rw [Bool.and_eq_false_iff, decide_eq_false_iff_not, decide_eq_false_iff_not]; omega
      rw [this, Bool.false_and]
    · intro _; exact .inr (.inl hw)
theorem implPutScal (u : ByteArray → Bool) (k : Int) (v : Val) (HU : Fn Tryd.prog G 52 [.sc (.string v.text)] [] (ret [.sc (.bool (u v.text))] [])) (ht : v.text.size ≤ 1048576) (h1 : -9223372036854775808 ≤ v.n) (h2 : v.n < 9223372036854775808) : Fn Tryd.prog G 8 [.sc (.int .i64 k), .agg v.acells] [] (ret [.own true 1 (byteC (scalB u k v))] []) := by
  have HV := implValG u k v HU
  have HW := (implWire k).wk (G := G)
  have HZ := (implZig v.n h1 h2).wk (G := G)
  have H4 := (implPutF4 v.n).wk (G := G)
  have H8 := (implPutF8 v.n).wk (G := G)
  have HP := (implPutV v.n).wk (G := G)
  have HQ := (implPutV (zz v.n)).wk (G := G)
  have HT := (implPutV v.text.size).wk (G := G)
  have hr : scalB u k v = if k = 16 ∨ valI u k v = false then [] else if wireOf k = 5 then fixB 4 (u64N v.n) else if wireOf k = 1 then fixB 8 (u64N v.n) else if wireOf k = 2 then vb (u64N v.text.size) ++ textB v.text else if k = 5 ∨ k = 6 then vb (u64N (zz v.n)) else vb (u64N v.n) := by unfold scalB; simp only [val_if u k v]
  generalize scalB u k v = R at *
  generalize valI u k v = a at *
  generalize wireOf k = w at *
  clear HU
  obtain ⟨n, text, items, unk⟩ := v
  dsimp only at *
  have hlt := vb_ten (u64N_lt text.size)
  have hrw := textB_rows text
  have htl := textB_len text
  generalize zz n = z at *
  generalize vb (u64N text.size) = vt at *
  have hc : ((byteC vt).length + (strRows text).length) * 1 ≤ 140737488355328 := by rw [byteC_len, htl]; omega
  have hmid : byteC vt ++ strRows text = byteC (vt ++ textB text) := by rw [byteC_app, hrw]
  generalize vt ++ textB text = vtt at *
  refine fn_ofG Tryd.func8 (by kernel_rfl) ?_
  conv => whnf
  repeat' (first
    | (refine Fn.use (HW) ?_; (conv => whnf); (first | refine ⟨trivial, ?_⟩ | refine ⟨⟨rfl, clr_of rfl⟩, ?_⟩); (conv => whnf))
    | (refine Fn.use (HV) ?_; (conv => whnf); (first | refine ⟨trivial, ?_⟩ | refine ⟨⟨rfl, clr_of rfl⟩, ?_⟩); (conv => whnf))
    | (refine Fn.use (HZ) ?_; (conv => whnf); (first | refine ⟨trivial, ?_⟩ | refine ⟨⟨rfl, clr_of rfl⟩, ?_⟩); (conv => whnf))
    | (refine Fn.use (H4) ?_; (conv => whnf); (first | refine ⟨trivial, ?_⟩ | refine ⟨⟨rfl, clr_of rfl⟩, ?_⟩); (conv => whnf))
    | (refine Fn.use (H8) ?_; (conv => whnf); (first | refine ⟨trivial, ?_⟩ | refine ⟨⟨rfl, clr_of rfl⟩, ?_⟩); (conv => whnf))
    | (refine Fn.use (HP) ?_; (conv => whnf); (first | refine ⟨trivial, ?_⟩ | refine ⟨⟨rfl, clr_of rfl⟩, ?_⟩); (conv => whnf))
    | (refine Fn.use (HQ) ?_; (conv => whnf); (first | refine ⟨trivial, ?_⟩ | refine ⟨⟨rfl, clr_of rfl⟩, ?_⟩); (conv => whnf))
    | (refine Fn.use (HT) ?_; (conv => whnf); (first | refine ⟨trivial, ?_⟩ | refine ⟨⟨rfl, clr_of rfl⟩, ?_⟩); (conv => whnf))
    | (refine chkP_of (decide_eq_true hc) ?_; (conv => whnf))
    | (refine chkP_of ?hchk ?_; (case hchk => simp; done); (conv => whnf))
    | (refine ifP_of (fun _ => ?_) (fun _ => ?_) <;> (conv => whnf)))
  all_goals clear HW HV HZ H4 H8 HP HQ HT
  all_goals first
    | (refine ⟨ol (l := []) ?_, rfl⟩; rw [hr]; simp_all [-Int.not_lt]; done)
    | (refine ⟨ol ?_, rfl⟩; rw [hr]; simp_all [-Int.not_lt]; done)
    | (rw [hmid]; refine ⟨ol ?_, rfl⟩; rw [hr]; simp_all [-Int.not_lt]; done)
end Ev
open Go Ev
open Go.Proofs
set_option maxRecDepth 100000
set_option maxHeartbeats 4000000
set_option linter.unusedVariables false
namespace Ev
theorem clr_bytes {d : Bool} {n : Nat} {l : List Int} : ClR [.own d n (byteC l)] := clr_own fun e he v hv => by
  unfold byteC at he
  obtain ⟨b, _, rfl⟩ := List.mem_map.1 he
  obtain rfl := List.mem_singleton.1 hv
  exact ⟨_, rfl⟩
theorem scal_len {u : ByteArray → Bool} {k : Int} {v : Val} (h : v.text.size ≤ 1048576) : (scalB u k v).length ≤ 1048676 := by
  unfold scalB
  have h1 := vb_ten (u64N_lt v.text.size)
  have h2 := vb_ten (u64N_lt (zz v.n))
  have h3 := vb_ten (u64N_lt v.n)
  have h4 : (textB v.text).length = v.text.size := by rw [← textB_len v.text, ← textB_rows, byteC_len]
  split
  · exact Nat.zero_le _
  split
  · rw [fixB_len]; omega
  split
  · rw [fixB_len]; omega
  split
  · rw [List.length_append]; omega
  split <;> omega
theorem Val.text_w (v : Val) : v.text.size ≤ v.w := by
  obtain ⟨n, text, items, unk⟩ := v
  rw [Val.w]; show text.size ≤ _; omega
theorem Val.sub_w (v : Val) : v.sub.w ≤ v.w := by
  obtain ⟨n, text, items, unk⟩ := v
  rw [Val.w]; show Msg.w ⟨items, unk⟩ ≤ _; rw [Msg.w, Item.ws]; omega
variable {G : List (Addr × Value)}
theorem lawPutScalar (u : ByteArray → Bool) (k : Int) (v : Val) (hv : v.ok) (HU : ∀ s : ByteArray, s.size ≤ 1048576 → Fn Tryd.prog G 48 [.sc (.string s)] [] (ret [.sc (.bool (u s))] [])) (HV : ∀ s : ByteArray, s.size ≤ 1048576 → Fn Tryd.prog G 52 [.sc (.string s)] [] (ret [.sc (.bool (u s))] [])) : Fn Tryd.prog G 3 [.sc (.int .i64 k), .agg v.acells] [] (ret [.sc (.bool true)] []) := by
  have hn : -9223372036854775808 ≤ v.n ∧ v.n < 9223372036854775808 := by
    obtain ⟨n, text, items, unk⟩ := v
    rw [Val.ok] at hv
    exact hv.2.2.2.1
  obtain ⟨h1, h2⟩ := hn
  have HZ := (szVal_all v hv 1048576 (by omega) (by omega)).wk (G := G)
  have HT := fun h => (toVal_all v h).wk (G := G)
  have HE := fun h => (eqVal_all v h v).wk (G := G)
  have HS := fun h => specPutScal u k v (HU v.text h) h h1 h2
  have HI := fun h => implPutScal u k v (HV v.text h) h h1 h2
  have hcn := Msg.cn_w v.sub
  have htw := Val.text_w v
  have hsw := Val.sub_w v
  have hsl := fun h => scal_len (u := u) (k := k) (v := v) h
  have HM := fun h => (markVal_ok v 1 (by omega) h).wk (G := G)
  generalize scalB u k v = R at *
  generalize hW : v.w = W at *
  obtain ⟨n, text, items, unk⟩ := v
  clear HU HV hv h1 h2
  refine fn_ofG Tryd.func3 (by kernel_rfl) ?_
  conv => whnf
  refine Fn.use (HZ) ?_
  conv => whnf
  first | refine ⟨trivial, ?_⟩ | refine ⟨⟨rfl, clr_of rfl⟩, ?_⟩
  conv => whnf
  generalize hd : dec 1048576 _ = d
  refine ifP_of (fun h => ?_) (fun h => ?_)
  · conv => whnf
    exact ⟨rfl, rfl⟩
  obtain ⟨h1, _⟩ := dec_ge hd (of_decide_eq_false h)
  have hw : W ≤ 1048576 := by omega
  have HT := HT hw
  have HE := HE hw
  have HS := HS (by omega)
  have HI := HI (by omega)
  have hR := hsl (by omega)
  have HB := (eqByteS_ok R R (by omega)).wk (G := G)
  rw [eqb_yes rfl] at HB HE
  have HM := HM (by omega)
  have HN := (markByteS_ok R 1 (by omega) (by omega)).wk (G := G)
  have HH := (heldByteS_ok R 1 (by omega) (by omega)).wk (G := G)
  have hpos : decide (1 + ((R.length : Nat) : Int) < 0) = false := decide_eq_false (by omega)
  have hpos2 : decide (1 + ((Msg.cn (Val.sub ⟨n, text, items, unk⟩) : Nat) : Int) < 0) = false := decide_eq_false (by omega)
  generalize 1 + ((R.length : Nat) : Int) = K at *
  generalize 1 + ((Msg.cn (Val.sub ⟨n, text, items, unk⟩) : Nat) : Int) = K2 at *
  clear hR hcn h hd h1 hsl htw hsw hw hW
  conv => whnf
  refine Fn.use (HT) ?_
  conv => whnf
  first | refine ⟨trivial, ?_⟩ | refine ⟨⟨rfl, clr_of rfl⟩, ?_⟩
  conv => whnf
  refine Fn.use HS ⟨⟨rfl, clr_bytes⟩, ?_⟩
  conv => whnf
  refine Fn.use (HT) ?_
  conv => whnf
  first | refine ⟨trivial, ?_⟩ | refine ⟨⟨rfl, clr_of rfl⟩, ?_⟩
  conv => whnf
  refine Fn.use HI ⟨⟨rfl, clr_bytes⟩, ?_⟩
  as_aux_lemma =>
    conv => whnf
    refine Fn.use (HB) ?_
    conv => whnf
    first | refine ⟨trivial, ?_⟩ | refine ⟨⟨rfl, clr_of rfl⟩, ?_⟩
    conv => whnf
    refine Fn.use (HT) ?_
    conv => whnf
    first | refine ⟨trivial, ?_⟩ | refine ⟨⟨rfl, clr_of rfl⟩, ?_⟩
    conv => whnf
    refine Fn.use (HE) ?_
    conv => whnf
    first | refine ⟨trivial, ?_⟩ | refine ⟨⟨rfl, clr_of rfl⟩, ?_⟩
    conv => whnf
    refine Fn.use HM ⟨trivial, ?_⟩
    as_aux_lemma =>
      conv => whnf
      refine ifP_no hpos2 ?_
      conv => whnf
      refine Fn.use (HB) ?_
      conv => whnf
      first | refine ⟨trivial, ?_⟩ | refine ⟨⟨rfl, clr_of rfl⟩, ?_⟩
      conv => whnf
      refine Fn.use HN ⟨trivial, ?_⟩
      as_aux_lemma =>
        conv => whnf
        refine Fn.use HH ⟨⟨rfl, clr_of rfl⟩, ?_⟩
        as_aux_lemma =>
          conv => whnf
          refine ifP_no hpos ?_
          conv => whnf
          refine ifP_no (neI _) ?_
          conv => whnf
          refine Fn.use (HT) ?_
          conv => whnf
          first | refine ⟨trivial, ?_⟩ | refine ⟨⟨rfl, clr_of rfl⟩, ?_⟩
          conv => whnf
          refine Fn.use HI ⟨⟨rfl, clr_bytes⟩, ?_⟩
          as_aux_lemma =>
            conv => whnf
            refine Fn.use (HB) ?_
            conv => whnf
            first | refine ⟨trivial, ?_⟩ | refine ⟨⟨rfl, clr_of rfl⟩, ?_⟩
            conv => whnf
            refine Fn.use HH ⟨⟨rfl, clr_of rfl⟩, ?_⟩
            as_aux_lemma =>
              conv => whnf
              refine ifP_no hpos ?_
              conv => whnf
              refine ifP_no (neI _) ?_
              conv => whnf
              exact ⟨rfl, rfl⟩
end Ev
