/- Contracts of functions of the given program, shown on the evaluator; each states its own conditions. -/
import Derived.Test.YtfhpkcdkinnnmaaF2
open Go Ev
open Go.Proofs
set_option maxRecDepth 100000
set_option maxHeartbeats 4000000
set_option linter.unusedVariables false
namespace Ev
def orI (x b : Int) : Int := IntKind.i64.wrap (BitVec.ofInt IntKind.i64.bits x ||| BitVec.ofInt IntKind.i64.bits b).toNat
def bitI (c : Bool) (b x : Int) : Int := match c with
  | true => orI x b
  | false => x
theorem closure63 (c : Bool) (b x : Int) : Fn Try.prog [] 63 [.sc (.bool c), .sc (.int .i64 b), .ptr 0 [] 0 0] [⟨[[.sc (.int .i64 x)]], true, 1, true⟩] (ret [] [⟨[[.sc (.int .i64 (bitI c b x))]], true, 1, true⟩]) := by
  refine fn_of Try.func63 (by kernel_rfl) ?_
  conv => whnf
  refine ifP_of (fun h => ?_) (fun h => ?_)
  · subst h
    conv => whnf
    exact ⟨rfl, rfl⟩
  · subst h
    conv => whnf
    exact ⟨rfl, rfl⟩
def opM (x : Int) (o : Opr) : Int := bitI (decide ((o.inl.length : Int) > 0)) 32 (bitI (o.run != 0) 16 (bitI o.quick 4 (bitI (decide ((o.tag.length : Int) > 0)) 2 x)))
def modM0 (x : Int) (m : Modu) : Int := bitI m.cached 8 (bitI (decide ((m.jumps.length : Int) > 0)) 1 x)
def modM (x : Int) (m : Modu) : Int := m.ops.foldl opM (modM0 x m)
theorem irS_run {mods : List Modu} (h : irS mods = true) {k : Nat} (hk : k < mods.length) {j : Nat} (hj : j < mods[k].ops.length) : decide (mods[k].ops[j].run > 0) = (mods[k].ops[j].run != 0) := by
  unfold irS at h
  simp only [Bool.and_eq_true] at h
  have h1 := (allAt_iff (l := mods) (q := fun _ m => modS mods m) (p := modAt mods) (fun j => by unfold modAt; cases mods[j]? <;> rfl)).1 h.2.2 k hk
  unfold modS at h1
  simp only [Bool.and_eq_true] at h1
  have h2 := (allAt_iff (l := mods[k].ops) (q := fun j o => opOkB mods mods[k].ops j o) (p := opAtB mods mods[k].ops) (fun j => by unfold opAtB; cases mods[k].ops[j]? <;> rfl)).1 h1.1 j hj
  unfold opOkB runOk at h2
  simp only [Bool.and_eq_true, Bool.or_eq_true] at h2
  rcases h2.2.2 with h3 | ⟨h3, _⟩
  · have h3 : mods[k].ops[j].run = 0 := by simpa using h3
    rw [h3]; rfl
  · have h3 := (inB_iff.1 h3).1
    rw [decide_eq_true (by omega)]
    have : mods[k].ops[j].run ≠ 0 := by omega
    simp [this]
noncomputable def marksV (mods : List Modu) : Int := if irS mods = true then mods.foldl modM 0 else 0
theorem specMarks (mods : List Modu) (hs : Small mods) : Fn Try.prog [] 19 [.agg [.sh 3 (Modu.css mods)]] [] (ret [.sc (.int .i64 (marksV mods))] []) := by
  have hl := Modu.css_len mods
  have hlen := hs.len
  have H := specIrOk mods hs
  have hv : marksV mods = if irS mods = true then mods.foldl modM 0 else 0 := rfl
  have hrun := fun h => @irS_run mods h
  generalize irS mods = c at *
  generalize marksV mods = R at *
  refine fn_of Try.func19 (by kernel_rfl) ?_
  conv => whnf
  refine Fn.use (H) ?_
  conv => whnf
  first | refine ⟨trivial, ?_⟩ | refine ⟨⟨rfl, clr_of rfl⟩, ?_⟩
  conv => whnf
  refine ifP_of (fun h => ?_) (fun h => ?_)
  · have h : c = false := by simpa using h
    subst h
    conv => whnf
    exact ⟨il (by rw [hv]; rfl), rfl⟩
  have h : c = true := by simpa using h
  subst h
  rw [if_pos rfl] at hv
  have hrun := fun (k : Nat) (hk : k < mods.length) (j : Nat) (hj : j < mods[k].ops.length) => hrun rfl hk hj
  conv => whnf
  refine loop_of (A := Nat × Int) (fun x => ⟨[(1, .ptr 0 [] 0 0), (3, .sc (.int .i64 x.2)), (4, .sc (.int .i64 x.1))], [(0, some ⟨[[.sh 3 (Modu.css mods)]], true, 1, true⟩)], 1, 77, 0⟩) (fun x => mods.length - x.1) (fun x => x.1 ≤ mods.length ∧ (mods.drop x.1).foldl modM x.2 = R) (0, 0) rfl ⟨Nat.zero_le _, hv.symm⟩ ?_
  intro ⟨k, x⟩ ⟨hk, hout⟩ X ih
  dsimp only at hk hout
  conv => whnf
  rw [hl]
  refine ifP_of (fun h2 => ?_) (fun h2 => ?_)
  · have h2 : k < mods.length := by have := of_decide_eq_true h2; dsimp only at this; omega
    have hw : IntKind.i64.wrap ((k : Int) + 1) = ((k + 1 : Nat) : Int) := by rw [wrap64 (by omega) (by omega)]; omega
    rw [List.drop_eq_getElem_cons h2, List.foldl_cons] at hout
    have hsm := hs.all _ (List.getElem_mem h2)
    have hru := hrun k h2
    have hg := Modu.css_get h2
    generalize mods[k] = m at *
    obtain ⟨ops, jumps, cached⟩ := m
    obtain ⟨s1, s2, s3⟩ := hsm
    dsimp only at s1 s2 s3 hru
    have hm0 : modM x ⟨ops, jumps, cached⟩ = ops.foldl opM (bitI cached 8 (bitI (decide ((jumps.length : Int) > 0)) 1 x)) := rfl
    rw [hm0] at hout
    clear hm0
    have hlo := Opr.css_len ops
    have hlj := intC_len jumps
    rw [← hlj] at hout
    conv => whnf
    refine optP_of (hg) ?_
    conv => whnf
    generalize hd : decide (((intC jumps).length : Int) > 0) = d at *
    refine regP_by (fun t => t = ⟨[(1, .ptr 0 [] 0 0), (3, .sc (.int .i64 (bitI d 1 x))), (4, .sc (.int .i64 k)), (5, .ptr 1 [] 0 0)], [(0, some ⟨[[.sh 3 (Modu.css mods)]], true, 1, true⟩), (1, some ⟨[[.sh 9 (Opr.css ops), .sh 1 (intC jumps), .sc (.bool cached)]], true, 3, true⟩)], 2, 77, 0⟩) ?_ ?_
    · refine ifP_of (fun q => ?_) (fun q => ?_)
      · rw [hd] at q
        subst q
        conv => whnf
        rfl
      · rw [hd] at q
        subst q
        conv => whnf
        rfl
    rintro t rfl
    clear hd
    generalize bitI d 1 x = x1 at *
    conv => whnf
    refine regP_by (fun t => t = ⟨[(1, .ptr 0 [] 0 0), (3, .sc (.int .i64 (bitI cached 8 x1))), (4, .sc (.int .i64 k)), (5, .ptr 1 [] 0 0)], [(0, some ⟨[[.sh 3 (Modu.css mods)]], true, 1, true⟩), (1, some ⟨[[.sh 9 (Opr.css ops), .sh 1 (intC jumps), .sc (.bool cached)]], true, 3, true⟩)], 2, 77, 0⟩) ?_ ?_
    · refine ifP_of (fun q => ?_) (fun q => ?_)
      · subst q
        conv => whnf
        rfl
      · subst q
        conv => whnf
        rfl
    rintro t rfl
    generalize bitI cached 8 x1 = x2 at *
    conv => whnf
    refine loop_of (A := Nat × Int) (fun y => ⟨[(1, .ptr 0 [] 0 0), (3, .sc (.int .i64 y.2)), (4, .sc (.int .i64 k)), (5, .ptr 1 [] 0 0), (6, .sc (.int .i64 y.1))], [(0, some ⟨[[.sh 3 (Modu.css mods)]], true, 1, true⟩), (1, some ⟨[[.sh 9 (Opr.css ops), .sh 1 (intC jumps), .sc (.bool cached)]], true, 3, true⟩)], 2, 77, 0⟩) (fun y => ops.length - y.1) (fun y => y.1 ≤ ops.length ∧ (mods.drop (k + 1)).foldl modM ((ops.drop y.1).foldl opM y.2) = R) (0, x2) rfl ⟨Nat.zero_le _, hout⟩ ?_
    clear hout
    intro ⟨i, y⟩ ⟨hi, hout⟩ Y ih2
    dsimp only at hi hout
    conv => whnf
    rw [hlo]
    refine ifP_of (fun h3 => ?_) (fun h3 => ?_)
    · have h3 : i < ops.length := by have := of_decide_eq_true h3; dsimp only at this; omega
      have hw3 : IntKind.i64.wrap ((i : Int) + 1) = ((i + 1 : Nat) : Int) := by rw [wrap64 (by omega) (by omega)]; omega
      have hrn := hru i h3
      have hgo := Opr.css_get h3
      rw [List.drop_eq_getElem_cons h3, List.foldl_cons] at hout
      generalize ops[i] = o at *
      obtain ⟨num, kind, ref, rep, oneof, tag, quick, run, inl⟩ := o
      have lt := byteC_len tag
      have li := Opr.css_len inl
      dsimp only at hrn
      have hom : opM y ⟨num, kind, ref, rep, oneof, tag, quick, run, inl⟩ = bitI (decide ((inl.length : Int) > 0)) 32 (bitI (run != 0) 16 (bitI quick 4 (bitI (decide ((tag.length : Int) > 0)) 2 y))) := rfl
      rw [hom, ← hrn, ← lt, ← li] at hout
      clear hom hrn
      conv => whnf
      refine regP_by (fun t => t = ⟨[(1, .ptr 0 [] 0 0), (3, .sc (.int .i64 (bitI (decide (((Opr.css inl).length : Int) > 0)) 32 (bitI (decide (run > 0)) 16 (bitI quick 4 (bitI (decide (((byteC tag).length : Int) > 0)) 2 y)))))), (4, .sc (.int .i64 k)), (5, .ptr 1 [] 0 0), (6, .sc (.int .i64 i))], [(0, some ⟨[[.sh 3 (Modu.css mods)]], true, 1, true⟩), (1, some ⟨[[.sh 9 (Opr.css ops), .sh 1 (intC jumps), .sc (.bool cached)]], true, 3, true⟩)], 2, 77, 0⟩) ?_ ?_
      rotate_left
      · rintro t rfl
        conv => whnf
        have h5 := ih2 (i + 1, (bitI (decide (((Opr.css inl).length : Int) > 0)) 32 (bitI (decide (run > 0)) 16 (bitI quick 4 (bitI (decide (((byteC tag).length : Int) > 0)) 2 y))))) ⟨by dsimp only; omega, hout⟩ (by dsimp only; omega)
        dsimp only at h5
        rw [← hw3] at h5
        exact h5
      clear hout
      generalize hd : decide (((byteC tag).length : Int) > 0) = d at *
      refine regP_by (fun t => t = ⟨[(1, .ptr 0 [] 0 0), (3, .sc (.int .i64 (bitI d 2 y))), (4, .sc (.int .i64 k)), (5, .ptr 1 [] 0 0), (6, .sc (.int .i64 i))], [(0, some ⟨[[.sh 3 (Modu.css mods)]], true, 1, true⟩), (1, some ⟨[[.sh 9 (Opr.css ops), .sh 1 (intC jumps), .sc (.bool cached)]], true, 3, true⟩)], 2, 77, 0⟩) ?_ ?_
      · conv => whnf
        refine optP_of (hgo) ?_
        conv => whnf
        refine ifP_of (fun q => ?_) (fun q => ?_)
        · rw [hd] at q
          subst q
          conv => whnf
          rfl
        · rw [hd] at q
          subst q
          conv => whnf
          rfl
      rintro t rfl
      clear hd
      generalize bitI d 2 y = y1 at *
      conv => whnf
      refine regP_by (fun t => t = ⟨[(1, .ptr 0 [] 0 0), (3, .sc (.int .i64 (bitI quick 4 y1))), (4, .sc (.int .i64 k)), (5, .ptr 1 [] 0 0), (6, .sc (.int .i64 i))], [(0, some ⟨[[.sh 3 (Modu.css mods)]], true, 1, true⟩), (1, some ⟨[[.sh 9 (Opr.css ops), .sh 1 (intC jumps), .sc (.bool cached)]], true, 3, true⟩)], 2, 77, 0⟩) ?_ ?_
      · conv => whnf
        refine optP_of (hgo) ?_
        conv => whnf
        refine ifP_of (fun q => ?_) (fun q => ?_)
        · subst q
          conv => whnf
          rfl
        · subst q
          conv => whnf
          rfl
      rintro t rfl
      generalize bitI quick 4 y1 = y2 at *
      generalize hd : decide (run > 0) = d at *
      refine regP_by (fun t => t = ⟨[(1, .ptr 0 [] 0 0), (3, .sc (.int .i64 (bitI d 16 y2))), (4, .sc (.int .i64 k)), (5, .ptr 1 [] 0 0), (6, .sc (.int .i64 i))], [(0, some ⟨[[.sh 3 (Modu.css mods)]], true, 1, true⟩), (1, some ⟨[[.sh 9 (Opr.css ops), .sh 1 (intC jumps), .sc (.bool cached)]], true, 3, true⟩)], 2, 77, 0⟩) ?_ ?_
      · conv => whnf
        refine optP_of (hgo) ?_
        conv => whnf
        refine ifP_of (fun q => ?_) (fun q => ?_)
        · rw [hd] at q
          subst q
          conv => whnf
          rfl
        · rw [hd] at q
          subst q
          conv => whnf
          rfl
      rintro t rfl
      clear hd
      generalize bitI d 16 y2 = y3 at *
      generalize hd : decide (((Opr.css inl).length : Int) > 0) = d at *
      conv => whnf
      refine optP_of (hgo) ?_
      conv => whnf
      refine ifP_of (fun q => ?_) (fun q => ?_)
      · rw [hd] at q
        subst q
        conv => whnf
        rfl
      · rw [hd] at q
        subst q
        conv => whnf
        rfl
    have h3 : i = ops.length := by have := of_decide_eq_false h3; dsimp only at this; omega
    subst h3
    rw [List.drop_eq_nil_of_le (Nat.le_refl _), List.foldl_nil] at hout
    conv => whnf
    have h5 := ih (k + 1, y) ⟨by dsimp only; omega, hout⟩ (by dsimp only; omega)
    dsimp only at h5
    rw [← hw] at h5
    exact h5
  have h2 : k = mods.length := by have := of_decide_eq_false h2; dsimp only at this; omega
  subst h2
  rw [List.drop_eq_nil_of_le (Nat.le_refl _)] at hout
  conv => whnf
  exact ⟨il hout, rfl⟩
end Ev
open Go Ev
open Go.Proofs
set_option maxRecDepth 100000
set_option maxHeartbeats 4000000
set_option linter.unusedVariables false
namespace Ev
theorem implMarksV (mods : List Modu) (hs : Small mods) : Fn Try.prog [] 20 [.agg [.sh 3 (Modu.css mods)]] [] (ret [.sc (.int .i64 (marksV mods))] []) := by
  have hl := Modu.css_len mods
  have hlen := hs.len
  have H := implIrOk mods hs
  rw [← ir_iff] at H
  have hv : marksV mods = if irS mods = true then mods.foldl modM 0 else 0 := rfl
  generalize irS mods = c at *
  generalize marksV mods = R at *
  refine fn_of Try.func20 (by kernel_rfl) ?_
  conv => whnf
  refine Fn.use (H) ?_
  conv => whnf
  first | refine ⟨trivial, ?_⟩ | refine ⟨⟨rfl, clr_of rfl⟩, ?_⟩
  conv => whnf
  refine ifP_of (fun h => ?_) (fun h => ?_)
  · have h : c = false := by simpa using h
    subst h
    conv => whnf
    exact ⟨il (by rw [hv]; rfl), rfl⟩
  have h : c = true := by simpa using h
  subst h
  rw [if_pos rfl] at hv
  conv => whnf
  rw [hl]
  refine loop_of (A := Nat × Int) (fun x => ⟨[(3, .ptr 0 [] 0 0), (4, .fn 63 [.ptr 0 [] 0 0]), (14, .sh 3 (Modu.css mods)), (15, .sc (.int .i64 mods.length)), (16, .sc (.int .i64 x.1))], [(0, some ⟨[[.sc (.int .i64 x.2)]], true, 1, true⟩)], 1, 61, 0⟩) (fun x => mods.length - x.1) (fun x => x.1 ≤ mods.length ∧ (mods.drop x.1).foldl modM x.2 = R) (0, 0) rfl ⟨Nat.zero_le _, hv.symm⟩ ?_
  intro ⟨k, x⟩ ⟨hk, hout⟩ X ih
  dsimp only at hk hout
  conv => whnf
  refine ifP_of (fun h2 => ?_) (fun h2 => ?_)
  · have h2 : k < mods.length := by have := of_decide_eq_true h2; dsimp only at this; omega
    have hw : IntKind.i64.wrap ((k : Int) + 1) = ((k + 1 : Nat) : Int) := by rw [wrap64 (by omega) (by omega)]; omega
    rw [List.drop_eq_getElem_cons h2, List.foldl_cons] at hout
    have hsm := hs.all _ (List.getElem_mem h2)
    have hg := Modu.css_get h2
    generalize mods[k] = m at *
    obtain ⟨ops, jumps, cached⟩ := m
    obtain ⟨s1, s2, s3⟩ := hsm
    dsimp only at s1 s2 s3
    have hlo := Opr.css_len ops
    have hlj := intC_len jumps
    have hm0 : modM x ⟨ops, jumps, cached⟩ = ops.foldl opM (bitI cached 8 (bitI (decide ((jumps.length : Int) > 0)) 1 x)) := rfl
    rw [hm0, ← hlj] at hout
    clear hm0
    conv => whnf
    refine optP_of (hg) ?_
    conv => whnf
    refine Fn.use (closure63 _ 1 x) ?_
    conv => whnf
    first | refine ⟨trivial, ?_⟩ | refine ⟨⟨rfl, clr_of rfl⟩, ?_⟩
    conv => whnf
    generalize bitI (decide (((intC jumps).length : Int) > 0)) 1 x = x1 at *
    refine Fn.use (closure63 cached 8 x1) ?_
    conv => whnf
    first | refine ⟨trivial, ?_⟩ | refine ⟨⟨rfl, clr_of rfl⟩, ?_⟩
    conv => whnf
    generalize bitI cached 8 x1 = x2 at *
    rw [hlo]
    refine loop_of (A := Nat × Int) (fun y => ⟨[(3, .ptr 0 [] 0 0), (4, .fn 63 [.ptr 0 [] 0 0]), (14, .sh 3 (Modu.css mods)), (15, .sc (.int .i64 mods.length)), (16, .sc (.int .i64 k)), (31, .sh 9 (Opr.css ops)), (32, .sc (.int .i64 ops.length)), (33, .sc (.int .i64 y.1))], [(0, some ⟨[[.sc (.int .i64 y.2)]], true, 1, true⟩)], 1, 61, 0⟩) (fun y => ops.length - y.1) (fun y => y.1 ≤ ops.length ∧ (mods.drop (k + 1)).foldl modM ((ops.drop y.1).foldl opM y.2) = R) (0, x2) rfl ⟨Nat.zero_le _, hout⟩ ?_
    clear hout
    intro ⟨i, y⟩ ⟨hi, hout⟩ Y ih2
    dsimp only at hi hout
    conv => whnf
    refine ifP_of (fun h3 => ?_) (fun h3 => ?_)
    · have h3 : i < ops.length := by have := of_decide_eq_true h3; dsimp only at this; omega
      have hw3 : IntKind.i64.wrap ((i : Int) + 1) = ((i + 1 : Nat) : Int) := by rw [wrap64 (by omega) (by omega)]; omega
      have hgo := Opr.css_get h3
      rw [List.drop_eq_getElem_cons h3, List.foldl_cons] at hout
      generalize ops[i] = o at *
      obtain ⟨num, kind, ref, rep, oneof, tag, quick, run, inl⟩ := o
      have lt := byteC_len tag
      have li := Opr.css_len inl
      have hom : opM y ⟨num, kind, ref, rep, oneof, tag, quick, run, inl⟩ = bitI (decide ((inl.length : Int) > 0)) 32 (bitI (run != 0) 16 (bitI quick 4 (bitI (decide ((tag.length : Int) > 0)) 2 y))) := rfl
      rw [hom, ← lt, ← li] at hout
      clear hom
      conv => whnf
      refine optP_of (hgo) ?_
      conv => whnf
      refine Fn.use (closure63 _ 2 y) ?_
      conv => whnf
      first | refine ⟨trivial, ?_⟩ | refine ⟨⟨rfl, clr_of rfl⟩, ?_⟩
      conv => whnf
      generalize bitI (decide (((byteC tag).length : Int) > 0)) 2 y = y1 at *
      refine Fn.use (closure63 quick 4 y1) ?_
      conv => whnf
      first | refine ⟨trivial, ?_⟩ | refine ⟨⟨rfl, clr_of rfl⟩, ?_⟩
      conv => whnf
      generalize bitI quick 4 y1 = y2 at *
      refine Fn.use (closure63 (run != 0) 16 y2) ?_
      conv => whnf
      first | refine ⟨trivial, ?_⟩ | refine ⟨⟨rfl, clr_of rfl⟩, ?_⟩
      conv => whnf
      generalize bitI (run != 0) 16 y2 = y3 at *
      refine Fn.use (closure63 _ 32 y3) ?_
      conv => whnf
      first | refine ⟨trivial, ?_⟩ | refine ⟨⟨rfl, clr_of rfl⟩, ?_⟩
      conv => whnf
      generalize bitI (decide (((Opr.css inl).length : Int) > 0)) 32 y3 = y4 at *
      have h5 := ih2 (i + 1, y4) ⟨by dsimp only; omega, hout⟩ (by dsimp only; omega)
      dsimp only at h5
      rw [← hw3] at h5
      exact h5
    have h3 : i = ops.length := by have := of_decide_eq_false h3; dsimp only at this; omega
    subst h3
    rw [List.drop_eq_nil_of_le (Nat.le_refl _), List.foldl_nil] at hout
    conv => whnf
    have h5 := ih (k + 1, y) ⟨by dsimp only; omega, hout⟩ (by dsimp only; omega)
    dsimp only at h5
    rw [← hw] at h5
    exact h5
  have h2 : k = mods.length := by have := of_decide_eq_false h2; dsimp only at this; omega
  subst h2
  rw [List.drop_eq_nil_of_le (Nat.le_refl _)] at hout
  conv => whnf
  exact ⟨il hout, rfl⟩
end Ev
open Go Ev
open Go.Proofs
set_option maxRecDepth 100000
set_option maxHeartbeats 4000000
set_option linter.unusedVariables false
namespace Ev
theorem lawMarks (x : Ir) (hx : x.ok) : Fn Try.prog [] 5 [.agg x.acells] [] (ret [.sc (.bool true)] []) := by
  have HZ := szIr_all x hx 1048576 (by omega) (by omega)
  have HT := fun h => toIr_all x h
  have HE := fun h => eqIr_all x h x
  have HS := fun h => specMarks x.mods (small_of h)
  have HI := fun h => implMarksV x.mods (small_of h)
  obtain ⟨mods⟩ := x
  refine fn_of Try.func5 (by kernel_rfl) ?_
  conv => whnf
  refine Fn.use (HZ) ?_
  conv => whnf
  first | refine ⟨trivial, ?_⟩ | refine ⟨⟨rfl, clr_of rfl⟩, ?_⟩
  conv => whnf
  generalize hd : dec 1048576 _ = d
  refine ifP_of (fun h => ?_) (fun h => ?_)
  · conv => whnf
    exact ⟨rfl, rfl⟩
  obtain ⟨h1, _⟩ := dec_ge hd (of_decide_eq_false h)
  have hw : Ir.w ⟨mods⟩ ≤ 1048576 := by omega
  have HT := HT hw
  have HE := HE hw
  have HS := HS hw
  have HI := HI hw
  rw [eqb_yes rfl] at HE
  conv => whnf
  refine Fn.use (HT) ?_
  conv => whnf
  first | refine ⟨trivial, ?_⟩ | refine ⟨⟨rfl, clr_of rfl⟩, ?_⟩
  conv => whnf
  refine Fn.use (HS) ?_
  conv => whnf
  first | refine ⟨trivial, ?_⟩ | refine ⟨⟨rfl, clr_of rfl⟩, ?_⟩
  conv => whnf
  refine Fn.use (HT) ?_
  conv => whnf
  first | refine ⟨trivial, ?_⟩ | refine ⟨⟨rfl, clr_of rfl⟩, ?_⟩
  conv => whnf
  refine Fn.use (HI) ?_
  conv => whnf
  first | refine ⟨trivial, ?_⟩ | refine ⟨⟨rfl, clr_of rfl⟩, ?_⟩
  conv => whnf
  rw [show (marksV mods != marksV mods) = false by simp]
  conv => whnf
  refine Fn.use (HT) ?_
  conv => whnf
  first | refine ⟨trivial, ?_⟩ | refine ⟨⟨rfl, clr_of rfl⟩, ?_⟩
  conv => whnf
  refine Fn.use (HE) ?_
  conv => whnf
  first | refine ⟨trivial, ?_⟩ | refine ⟨⟨rfl, clr_of rfl⟩, ?_⟩
  conv => whnf
  exact ⟨rfl, rfl⟩
end Ev
