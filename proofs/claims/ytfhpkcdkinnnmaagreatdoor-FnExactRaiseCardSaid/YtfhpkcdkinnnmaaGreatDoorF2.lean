/- Contracts of functions of the given program, shown on the evaluator; each states its own conditions. -/
import Derived.Test.YtfhpkcdkinnnmaaGreatDoorF1
import Derived.Test.YtfhpkcdkinnnmaaGreatDoorD
open Go Ev
open Go.Proofs
set_option maxRecDepth 100000
set_option maxHeartbeats 4000000
set_option linter.unusedVariables false
namespace Ev
def refsOf (mods : List Modu) (o : Opr) : Int := if o.kind = 16 then (mods.length : Int) else 1
def prevOk (ops : List Opr) (j : Nat) (o : Opr) : Bool := match j with
  | 0 => true
  | j + 1 => match ops[j]? with
    | some p => !decide (p.num ≥ o.num)
    | none => true
/-- An Op is right but for its marks. -/
def shapeOk (mods : List Modu) (ops : List Opr) (j : Nat) (o : Opr) : Bool := numB o.num && (prevOk ops j o && (inB o.kind 1 17 && (inB o.ref 0 (refsOf mods o - 1) && (inB o.oneof 0 40 && !(o.rep && (o.oneof != 0))))))
/-- The Ops of a run, from k on. -/
def runFrom (ops : List Opr) (j : Nat) : Nat → Nat → Bool
  | _, 0 => true
  | k, n + 1 => (match ops[j + k]? with
    | some p => p.block && !(decide ((k : Int) > 0) && (p.run != 0))
    | none => false) && runFrom ops j (k + 1) n
def runOk (ops : List Opr) (j : Nat) (o : Opr) : Bool := (o.run == 0) || (inB o.run 2 (ops.length - j) && runFrom ops j 0 o.run.toNat)
noncomputable def tagOk (o : Opr) : Bool := !(decide ((o.tag.length : Int) > 0) && !eqb o.tag (tagB o.num o.wire))
def quickOk (o : Opr) : Bool := !(o.quick && (wireOf o.kind != 0))
noncomputable def marksB (mods : List Modu) (o : Opr) : Bool := tagOk o && (quickOk o && inlOk mods o)
noncomputable def opOkB (mods : List Modu) (ops : List Opr) (j : Nat) (o : Opr) : Bool := shapeOk mods ops j o && (marksB mods o && runOk ops j o)
theorem specOpOk (mods : List Modu) (a : Modu) (j : Nat) (hj : j < a.ops.length) (hb : a.ops.length ≤ 1048576) (hm : mods.length ≤ 1048576) (hi : a.ops[j].inl.length ≤ 1048576) (ht : a.ops[j].tag.length ≤ 1048576) : Fn Tryz.prog [] 55 [.agg [.sh 3 (Modu.css mods)], .agg a.acells, .sc (.int .i64 j)] [] (ret [.sc (.bool (opOkB mods a.ops j a.ops[j]))] []) := by
  obtain ⟨ops, jumps, cached⟩ := a
  dsimp only at hj hb hi ht ⊢
  generalize ho : ops[j] = o at *
  have hget : (Opr.css ops)[((j : Nat) : Int).toNat]? = some o.cells := by rw [← ho]; exact Opr.css_get hj
  have hlm := Modu.css_len mods
  have hlo := Opr.css_len ops
  obtain ⟨num, kind, ref, rep, oneof, tag, quick, run, inl⟩ := o
  dsimp only at hi ht
  have lt := byteC_len tag
  have hrefs : ∀ {x : Int}, 0 ≤ x → x ≤ 1048576 → IntKind.i64.wrap (x - 1) = x - 1 := fun h1 h2 => wrap64 (by omega) (by omega)
  have hsh : shapeOk mods ops j ⟨num, kind, ref, rep, oneof, tag, quick, run, inl⟩ = (numB num && (prevOk ops j ⟨num, kind, ref, rep, oneof, tag, quick, run, inl⟩ && (inB kind 1 17 && (inB ref 0 ((if kind = 16 then (mods.length : Int) else 1) - 1) && (inB oneof 0 40 && !(rep && (oneof != 0))))))) := rfl
  have hop : opOkB mods ops j ⟨num, kind, ref, rep, oneof, tag, quick, run, inl⟩ = (shapeOk mods ops j ⟨num, kind, ref, rep, oneof, tag, quick, run, inl⟩ && (marksB mods ⟨num, kind, ref, rep, oneof, tag, quick, run, inl⟩ && runOk ops j ⟨num, kind, ref, rep, oneof, tag, quick, run, inl⟩)) := rfl
  generalize hO : opOkB mods ops j ⟨num, kind, ref, rep, oneof, tag, quick, run, inl⟩ = out at *
  generalize hS : shapeOk mods ops j ⟨num, kind, ref, rep, oneof, tag, quick, run, inl⟩ = shp at *
  generalize hM : marksB mods ⟨num, kind, ref, rep, oneof, tag, quick, run, inl⟩ = mrk at *
  refine fn_of Tryz.func55 d55 ?_
  conv => whnf
  refine optP_of (hget) ?_
  conv => whnf
  have hrun : ∀ b, runOk ops j ⟨num, kind, ref, rep, oneof, tag, quick, run, inl⟩ = b → out = (shp && (mrk && b)) := fun b hb => by rw [hop, hb]
  have hrk : runOk ops j ⟨num, kind, ref, rep, oneof, tag, quick, run, inl⟩ = ((run == 0) || (inB run 2 (ops.length - j) && runFrom ops j 0 run.toNat)) := rfl
  refine regP_by (fun t => t = ⟨[(2, .sc (.int .i64 j)), (3, .ptr 0 [] 0 0), (4, .ptr 1 [] 0 0), (7, .ptr 2 [] 0 0), (8, .sc (.int .i64 (if kind = 16 then (mods.length : Int) else 1)))], [(0, some ⟨[[.sh 3 (Modu.css mods)]], true, 1, true⟩), (1, some ⟨[[.sh 9 (Opr.css ops), .sh 1 (intC jumps), .sc (.bool cached)]], true, 3, true⟩), (2, some ⟨[[.sc (.int .i64 num), .sc (.int .i64 kind), .sc (.int .i64 ref), .sc (.bool rep), .sc (.int .i64 oneof), .sh 1 (byteC tag), .sc (.bool quick), .sc (.int .i64 run), .sh 9 (Opr.css inl)]], true, 9, true⟩)], 3, 143, 0⟩) ?_ ?_
  · refine ifP_of (fun hk => ?_) (fun hk => ?_)
    · have hk : kind = 16 := by simpa using hk
      rw [if_pos hk, ← hlm]

      conv => whnf
      rfl
    · have hk : ¬ kind = 16 := by simpa using hk
      rw [if_neg hk]
      conv => whnf
      rfl
  rintro t rfl
  have hr : 0 ≤ (if kind = 16 then (mods.length : Int) else 1) ∧ (if kind = 16 then (mods.length : Int) else 1) ≤ 1048576 := by split <;> omega
  have hk16 : kind = 16 → (if kind = 16 then (mods.length : Int) else 1) = mods.length := fun h => if_pos h
  generalize (if kind = 16 then (mods.length : Int) else 1) = refs at *
  have hw := hrefs hr.1 hr.2
  conv => whnf
  refine regP_by (fun t => t = ⟨[(2, .sc (.int .i64 j)), (3, .ptr 0 [] 0 0), (4, .ptr 1 [] 0 0), (7, .ptr 2 [] 0 0)], [(0, some ⟨[[.sh 3 (Modu.css mods)]], true, 1, true⟩), (1, some ⟨[[.sh 9 (Opr.css ops), .sh 1 (intC jumps), .sc (.bool cached)]], true, 3, true⟩), (2, some ⟨[[.sc (.int .i64 num), .sc (.int .i64 kind), .sc (.int .i64 ref), .sc (.bool rep), .sc (.int .i64 oneof), .sh 1 (byteC tag), .sc (.bool quick), .sc (.int .i64 run), .sh 9 (Opr.css inl)]], true, 9, true⟩)], 3, 143, 0⟩ ∧ shp = true) ?_ ?_
  · rcases j with _ | j
    · rw [show prevOk ops 0 ⟨num, kind, ref, rep, oneof, tag, quick, run, inl⟩ = true from rfl] at hsh
      repeat' (first
        | (refine Fn.use (specNum num) ?_; (conv => whnf); (first | refine ⟨trivial, ?_⟩ | refine ⟨⟨rfl, clr_of rfl⟩, ?_⟩); (conv => whnf))
        | (refine Fn.use (specIn kind 1 17) ?_; (conv => whnf); (first | refine ⟨trivial, ?_⟩ | refine ⟨⟨rfl, clr_of rfl⟩, ?_⟩); (conv => whnf))
        | (refine Fn.use (specIn ref 0 _) ?_; (conv => whnf); (first | refine ⟨trivial, ?_⟩ | refine ⟨⟨rfl, clr_of rfl⟩, ?_⟩); (conv => whnf))
        | (refine Fn.use (specIn oneof 0 40) ?_; (conv => whnf); (first | refine ⟨trivial, ?_⟩ | refine ⟨⟨rfl, clr_of rfl⟩, ?_⟩); (conv => whnf))
        | (refine chkP_of ?hchk ?_; (case hchk => simp; done); (conv => whnf))
        | (refine ifP_of (fun _ => ?_) (fun _ => ?_) <;> (conv => whnf)))
      all_goals first | exact ⟨bl (by simp_all), rfl⟩ | exact ⟨rfl, by simp_all⟩
    · have hpv : prevOk ops (j + 1) ⟨num, kind, ref, rep, oneof, tag, quick, run, inl⟩ = !decide (ops[j].num ≥ num) := by
        show (match ops[j]? with | some p => !decide (p.num ≥ num) | none => true) = _
        rw [List.getElem?_eq_getElem (by omega)]
      rw [hpv] at hsh
      have hw1 : IntKind.i64.wrap (((j + 1 : Nat) : Int) - 1) = (j : Int) := by rw [wrap64 (by omega) (by omega)]; omega
      have hg : (Opr.css ops)[(IntKind.i64.wrap (((j + 1 : Nat) : Int) - 1)).toNat]? = some (ops[j]'(by omega)).cells := by rw [hw1]; exact Opr.css_get (by omega)
      have hz : decide (0 ≤ IntKind.i64.wrap (((j + 1 : Nat) : Int) - 1)) = true := by rw [hw1]; simp
      generalize hpj : ops[j] = pj at *
      repeat' (first
        | (refine Fn.use (specNum num) ?_; (conv => whnf); (first | refine ⟨trivial, ?_⟩ | refine ⟨⟨rfl, clr_of rfl⟩, ?_⟩); (conv => whnf))
        | (refine Fn.use (specIn kind 1 17) ?_; (conv => whnf); (first | refine ⟨trivial, ?_⟩ | refine ⟨⟨rfl, clr_of rfl⟩, ?_⟩); (conv => whnf))
        | (refine Fn.use (specIn ref 0 _) ?_; (conv => whnf); (first | refine ⟨trivial, ?_⟩ | refine ⟨⟨rfl, clr_of rfl⟩, ?_⟩); (conv => whnf))
        | (refine Fn.use (specIn oneof 0 40) ?_; (conv => whnf); (first | refine ⟨trivial, ?_⟩ | refine ⟨⟨rfl, clr_of rfl⟩, ?_⟩); (conv => whnf))
        | (refine optP_of (hg) ?_; (conv => whnf))
        | (refine chkP_of (hz) ?_; (conv => whnf))
        | (refine chkP_of ?hchk ?_; (case hchk => simp; done); (conv => whnf))
        | (refine ifP_of (fun _ => ?_) (fun _ => ?_) <;> (conv => whnf)))
      all_goals first | exact ⟨bl (by simp_all), rfl⟩ | exact ⟨rfl, by simp_all⟩ | skip
  rintro t ⟨rfl, rfl⟩
  have hmk : mrk = (tagOk ⟨num, kind, ref, rep, oneof, tag, quick, run, inl⟩ && (quickOk ⟨num, kind, ref, rep, oneof, tag, quick, run, inl⟩ && inlOk mods ⟨num, kind, ref, rep, oneof, tag, quick, run, inl⟩)) := hM.symm
  have htg : tagOk ⟨num, kind, ref, rep, oneof, tag, quick, run, inl⟩ = !(decide ((tag.length : Int) > 0) && !eqb tag (tagB num (Opr.wire ⟨num, kind, ref, rep, oneof, tag, quick, run, inl⟩))) := rfl
  have hqk : quickOk ⟨num, kind, ref, rep, oneof, tag, quick, run, inl⟩ = !(quick && (wireOf kind != 0)) := rfl
  have hrf : kind = 16 → ∃ r : Nat, ref = r ∧ r < mods.length := fun h => by
    have h1 := hk16 h
    rw [h1] at hsh
    have h2 : inB ref 0 (mods.length - 1) = true := by
      generalize inB ref 0 (mods.length - 1) = x at *
      cases x
      · simp at hsh
      · rfl
    rw [inB_iff] at h2
    exact ⟨ref.toNat, by omega, by omega⟩
  have HI := specInline mods ⟨num, kind, ref, rep, oneof, tag, quick, run, inl⟩ hi hrf
  have HW := specOpWire ⟨num, kind, ref, rep, oneof, tag, quick, run, inl⟩
  have HS := specSameBytes tag (tagB num (Opr.wire ⟨num, kind, ref, rep, oneof, tag, quick, run, inl⟩)) ht
  generalize eqb tag (tagB num (Opr.wire ⟨num, kind, ref, rep, oneof, tag, quick, run, inl⟩)) = sb at *
  generalize inlOk mods ⟨num, kind, ref, rep, oneof, tag, quick, run, inl⟩ = ib at *
  have HK := specWire kind
  generalize wireOf kind = wk at *
  rw [← lt] at htg
  conv => whnf
  refine regP_by (fun t => t = ⟨[(2, .sc (.int .i64 j)), (4, .ptr 0 [] 0 0), (7, .ptr 1 [] 0 0)], [(0, some ⟨[[.sh 9 (Opr.css ops), .sh 1 (intC jumps), .sc (.bool cached)]], true, 3, true⟩), (1, some ⟨[[.sc (.int .i64 num), .sc (.int .i64 kind), .sc (.int .i64 ref), .sc (.bool rep), .sc (.int .i64 oneof), .sh 1 (byteC tag), .sc (.bool quick), .sc (.int .i64 run), .sh 9 (Opr.css inl)]], true, 9, true⟩)], 2, 143, 0⟩ ∧ mrk = true) ?_ ?_
  · have hno : mrk = false → false = out := fun h => by rw [hop, h]; rfl
    repeat' (first
      | (refine Fn.use (HW) ?_; (conv => whnf); (first | refine ⟨trivial, ?_⟩ | refine ⟨⟨rfl, clr_of rfl⟩, ?_⟩); (conv => whnf))
      | (refine Fn.use (specPutTag num _) ?_; (conv => whnf); (first | refine ⟨trivial, ?_⟩ | refine ⟨⟨rfl, clr_of rfl⟩, ?_⟩); (conv => whnf))
      | (refine Fn.use (HS) ?_; (conv => whnf); (first | refine ⟨trivial, ?_⟩ | refine ⟨⟨rfl, clr_of rfl⟩, ?_⟩); (conv => whnf))
      | (refine Fn.use (HK) ?_; (conv => whnf); (first | refine ⟨trivial, ?_⟩ | refine ⟨⟨rfl, clr_of rfl⟩, ?_⟩); (conv => whnf))
      | (refine Fn.use (HI) ?_; (conv => whnf); (first | refine ⟨trivial, ?_⟩ | refine ⟨⟨rfl, clr_of rfl⟩, ?_⟩); (conv => whnf))
      | (refine chkP_of ?hchk ?_; (case hchk => simp; done); (conv => whnf))
      | (refine ifP_of (fun _ => ?_) (fun _ => ?_) <;> (conv => whnf)))
    all_goals clear hrun hrk hsh hop hk16 hrf
    all_goals first | exact ⟨bl (hno (by rw [hmk, htg, hqk]; simp_all)), rfl⟩ | exact ⟨rfl, by rw [hmk, htg, hqk]; simp_all⟩
  rintro t ⟨rfl, h2⟩
  clear HI HW HS HK htg hqk hk16 hrf hsh
  have hrun : ∀ b, runOk ops j ⟨num, kind, ref, rep, oneof, tag, quick, run, inl⟩ = b → b = out := fun b hb => by rw [hrun b hb, h2]; rfl
  clear hop hmk
  have hw2 : ∀ k : Nat, k ≤ 1048576 → IntKind.i64.wrap ((j : Int) + (k : Int)) = ((j + k : Nat) : Int) := fun k hk => by rw [wrap64 (by omega) (by omega)]; omega
  have hwl : IntKind.i64.wrap ((ops.length : Int) - (j : Int)) = (ops.length : Int) - j := wrap64 (by omega) (by omega)
  rw [← hlo] at hwl
  conv => whnf
  refine ifP_of (fun h => ?_) (fun h => ?_)
  · have h : (run == 0) = true := h
    conv => whnf
    exact ⟨bl (hrun _ (by rw [hrk, h]; rfl)), rfl⟩
  have h : (run == 0) = false := h
  rw [h, Bool.false_or] at hrk
  conv => whnf
  refine Fn.use (specIn run 2 _) ?_
  rw [hwl, hlo]
  conv => whnf
  refine ⟨trivial, ?_⟩
  conv => whnf
  generalize hc : inB run 2 (ops.length - j) = c at *
  refine ifP_of (fun h => ?_) (fun h => ?_)
  · have h : c = false := by simpa using h
    subst h
    conv => whnf
    exact ⟨bl (hrun _ hrk), rfl⟩
  have h : c = true := by simpa using h
  subst h
  rw [inB_iff] at hc
  obtain ⟨n, rfl⟩ : ∃ n : Nat, run = n := ⟨run.toNat, by omega⟩
  rw [Bool.true_and, Int.toNat_natCast] at hrk
  conv => whnf
  refine loop_of (A := Nat) (fun k => ⟨[(2, .sc (.int .i64 j)), (4, .ptr 0 [] 0 0), (7, .ptr 1 [] 0 0), (9, .sc (.int .i64 k))], [(0, some ⟨[[.sh 9 (Opr.css ops), .sh 1 (intC jumps), .sc (.bool cached)]], true, 3, true⟩), (1, some ⟨[[.sc (.int .i64 num), .sc (.int .i64 kind), .sc (.int .i64 ref), .sc (.bool rep), .sc (.int .i64 oneof), .sh 1 (byteC tag), .sc (.bool quick), .sc (.int .i64 n), .sh 9 (Opr.css inl)]], true, 9, true⟩)], 2, 143, 0⟩) (fun k => n - k) (fun k => k ≤ n ∧ runFrom ops j k (n - k) = runFrom ops j 0 n) 0 rfl ⟨Nat.zero_le _, rfl⟩ ?_
  intro k ⟨hk, hout⟩ X ih
  have hz : decide (0 ≤ IntKind.i64.wrap ((j : Int) + (k : Int))) = true := by rw [hw2 k (by omega)]; simp; omega
  conv => whnf
  refine ifP_of (fun h3 => ?_) (fun h3 => ?_)
  · have h3 : k < n := by have := of_decide_eq_true h3; omega
    obtain ⟨pp, hpp⟩ : ∃ pp, ops[j + k]? = some pp := ⟨_, List.getElem?_eq_getElem (by omega)⟩
    have hg : (Opr.css ops)[(IntKind.i64.wrap ((j : Int) + (k : Int))).toNat]? = some pp.cells := by
      rw [hw2 k (by omega), Int.toNat_natCast, Opr.css_get (show j + k < ops.length by omega)]
      rw [List.getElem?_eq_getElem (by omega)] at hpp
      rw [Option.some.inj hpp]
    have hw : IntKind.i64.wrap ((k : Int) + 1) = ((k + 1 : Nat) : Int) := by rw [wrap64 (by omega) (by omega)]; omega
    rw [show n - k = (n - (k + 1)) + 1 by omega, runFrom, hpp] at hout
    dsimp only at hout
    have HB := specBlock pp
    generalize pp.block = bk at *
    have hyes : ∀ b : Bool, (bk && !(decide ((k : Int) > 0) && (pp.run != 0))) = b → (b && runFrom ops j (k + 1) (n - (k + 1))) = runFrom ops j 0 n := fun b hb => by rw [← hb]; exact hout
    repeat' (first
      | (refine Fn.use (HB) ?_; (conv => whnf); (first | refine ⟨trivial, ?_⟩ | refine ⟨⟨rfl, clr_of rfl⟩, ?_⟩); (conv => whnf))
      | (refine optP_of (hg) ?_; (conv => whnf))
      | (refine chkP_of (hz) ?_; (conv => whnf))
      | (refine chkP_of ?hchk ?_; (case hchk => simp; done); (conv => whnf))
      | (refine ifP_of (fun _ => ?_) (fun _ => ?_) <;> (conv => whnf)))
    all_goals first | exact ⟨bl (hrun _ (hrk.trans (hyes false (by clear ih hrun hrk hyes hout HB hg hz hw2 hwl hrefs hw hget hlm hlo lt hpp; simp_all)).symm)), rfl⟩ | skip
    all_goals
      have h5 := ih (k + 1) ⟨by omega, (hyes true (by clear ih hrun hrk hyes hout HB hg hz hw2 hwl hrefs hw hget hlm hlo lt hpp; simp_all))⟩ (by omega)
      rw [← hw] at h5
      exact h5
  · have h3 : k = n := by have := of_decide_eq_false h3; omega
    subst h3
    rw [Nat.sub_self] at hout
    conv => whnf
    exact ⟨bl (hrun _ (hrk.trans hout.symm)), rfl⟩
end Ev
open Go Ev
open Go.Proofs
set_option maxRecDepth 100000
set_option maxHeartbeats 4000000
set_option linter.unusedVariables false
namespace Ev
def lastN (ops : List Opr) : Int := match ops[ops.length - 1]? with
  | some o => o.num
  | none => 0
def jumpsBy (f : Int → Int) (ops : List Opr) : List Int := if ops.length = 0 ∨ lastN ops ≥ 64 then [] else (List.range (lastN ops + 1).toNat).map fun k : Nat => f (k : Int)
def jumpsS (ops : List Opr) : List Int := jumpsBy (fun k => lastBy (fun o => o.num == k) ops 0 (-1)) ops
def jumpsI (ops : List Opr) : List Int := jumpsBy (fun k => firstBy (fun o => o.num == k) ops 0) ops
theorem oneI (b : Int) : OneEs true false [[.sc (.int .i64 b)]] := fun e he v hv => by
  obtain rfl := List.mem_singleton.1 he
  obtain rfl := List.mem_singleton.1 hv
  rfl
theorem intC_snoc (l : List Int) (b : Int) : intC l ++ [[.sc (.int .i64 b)]] = intC (l ++ [b]) := by unfold intC; rw [List.map_append]; rfl
theorem specJumps (a : Modu) (hb : a.ops.length ≤ 1048576) : Fn Tryz.prog [] 58 [.agg a.acells] [] (ret [.own true 1 (intC (jumpsS a.ops))] []) := by
  obtain ⟨ops, jumps, cached⟩ := a
  dsimp only at hb ⊢
  have hl := Opr.css_len ops
  refine fn_of Tryz.func58 (by kernel_rfl) ?_
  conv => whnf
  rw [hl]
  by_cases hn : ops.length = 0
  · refine ifP_of (fun h => ?_) (fun h => ?_)
    · conv => whnf
      have : jumpsS ops = [] := by unfold jumpsS jumpsBy; rw [if_pos (.inl hn)]
      rw [this]
      exact ⟨rfl, rfl⟩
    · rw [hn] at h; cases h
  have hw1 : IntKind.i64.wrap ((ops.length : Int) - 1) = ((ops.length - 1 : Nat) : Int) := by rw [wrap64 (by omega) (by omega)]; omega
  obtain ⟨z, hz⟩ : ∃ z, ops[ops.length - 1]? = some z := ⟨_, List.getElem?_eq_getElem (by omega)⟩
  have hln : lastN ops = z.num := by unfold lastN; rw [hz]
  have hg : (Opr.css ops)[(IntKind.i64.wrap ((ops.length : Int) - 1)).toNat]? = some z.cells := by
    rw [hw1, Int.toNat_natCast, Opr.css_get (by omega)]
    rw [List.getElem?_eq_getElem (by omega)] at hz
    rw [Option.some.inj hz]
  have hz0 : decide (0 ≤ IntKind.i64.wrap ((ops.length : Int) - 1)) = true := by rw [hw1]; simp
  refine ifP_of (fun h => ?_) (fun h => ?_)
  · exact absurd (by have h : ((ops.length : Int) == 0) = true := h; simp at h; rw [h]; rfl) hn
  repeat' (first
    | (refine optP_of (hg) ?_; (conv => whnf))
    | (refine chkP_of (hz0) ?_; (conv => whnf))
    | (refine chkP_of ?hchk ?_; (case hchk => simp; done); (conv => whnf))
    | (refine ifP_of (fun _ => ?_) (fun _ => ?_) <;> (conv => whnf)))
  · rename_i h1
    have h1 : z.num ≥ 64 := of_decide_eq_true h1
    have : jumpsS ops = [] := by unfold jumpsS jumpsBy; rw [if_pos (.inr (by rw [hln]; exact h1))]
    rw [this]
    exact ⟨rfl, rfl⟩
  rename_i h1
  have h1 : ¬ z.num ≥ 64 := of_decide_eq_false h1
  have hj : jumpsS ops = (List.range (z.num + 1).toNat).map fun k : Nat => lastBy (fun o => o.num == (k : Int)) ops 0 (-1) := by unfold jumpsS jumpsBy; rw [hln, if_neg (by omega)]
  generalize hf : (fun k : Nat => lastBy (fun o => o.num == (k : Int)) ops 0 (-1)) = f at hj
  generalize hN : (z.num + 1).toNat = N at hj
  refine loop_of (A := Nat) (fun k => ⟨[(1, .ptr 0 [] 0 0), (3, .sc (.int .i64 ops.length)), (4, .hdr 1 []), (5, .sc (.int .i64 k))], [(0, some ⟨[[.sh 9 (Opr.css ops), .sh 1 (intC jumps), .sc (.bool cached)]], true, 3, true⟩), (1, some ⟨intC ((List.range k).map f), true, 1, false⟩)], 2, 55, 0⟩) (fun k => N - k) (fun k => k ≤ N) 0 rfl (Nat.zero_le _) ?_
  intro k hk X ih
  conv => whnf
  repeat' (first
    | (refine optP_of (hg) ?_; (conv => whnf))
    | (refine chkP_of (hz0) ?_; (conv => whnf))
    | (refine chkP_of ?hchk ?_; (case hchk => simp; done); (conv => whnf)))
  refine ifP_of (fun h2 => ?_) (fun h2 => ?_)
  rotate_left
  · have h2 : ¬ (k : Int) ≤ z.num := of_decide_eq_false h2
    conv => whnf
    have : k = N := by omega
    rw [hj, ← this]
    exact ⟨rfl, rfl⟩
  have h2 : (k : Int) ≤ z.num := of_decide_eq_true h2
  have hw : IntKind.i64.wrap ((k : Int) + 1) = ((k + 1 : Nat) : Int) := by rw [wrap64 (by omega) (by omega)]; omega
  conv => whnf
  refine loop_of (A := Nat × Int) (fun x => ⟨[(1, .ptr 0 [] 0 0), (3, .sc (.int .i64 ops.length)), (4, .hdr 1 []), (5, .sc (.int .i64 k)), (6, .sc (.int .i64 x.2)), (7, .sc (.int .i64 x.1))], [(0, some ⟨[[.sh 9 (Opr.css ops), .sh 1 (intC jumps), .sc (.bool cached)]], true, 3, true⟩), (1, some ⟨intC ((List.range k).map f), true, 1, false⟩)], 2, 55, 0⟩) (fun x => ops.length - x.1) (fun x => x.1 ≤ ops.length ∧ lastBy (fun o => o.num == (k : Int)) (ops.drop x.1) x.1 x.2 = f k) (0, -1) rfl ⟨Nat.zero_le _, by rw [← hf]; rfl⟩ ?_
  intro ⟨i, at_⟩ ⟨hi, hout⟩ Y ih2
  dsimp only at hi hout
  conv => whnf
  refine ifP_of (fun h3 => ?_) (fun h3 => ?_)
  · have h3 : i < ops.length := by have := of_decide_eq_true h3; dsimp only at this; omega
    have hw3 : IntKind.i64.wrap ((i : Int) + 1) = ((i + 1 : Nat) : Int) := by rw [wrap64 (by omega) (by omega)]; omega
    rw [List.drop_eq_getElem_cons h3, lastBy] at hout
    conv => whnf
    refine optP_of (Opr.css_get h3) ?_
    conv => whnf
    generalize ops[i] = o at *
    refine ifP_of (fun h4 => ?_) (fun h4 => ?_)
    · have h4 : (o.num == (k : Int)) = true := h4
      rw [if_pos h4] at hout
      conv => whnf
      have h5 := ih2 (i + 1, (i : Int)) ⟨by dsimp only; omega, hout⟩ (by dsimp only; omega)
      dsimp only at h5
      rw [← hw3] at h5
      exact h5
    · have h4 : ¬ (o.num == (k : Int)) = true := by rw [h4]; simp
      rw [if_neg h4] at hout
      conv => whnf
      have h5 := ih2 (i + 1, at_) ⟨by dsimp only; omega, hout⟩ (by dsimp only; omega)
      dsimp only at h5
      rw [← hw3] at h5
      exact h5
  · have h3 : ¬ i < ops.length := by have := of_decide_eq_false h3; dsimp only at this; omega
    rw [List.drop_eq_nil_of_le (by omega), lastBy] at hout
    subst hout
    conv => whnf
    refine ⟨oneI _, ?_⟩
    refine chkP_of (by rw [intC_len]; simp; omega) ?_
    conv => whnf
    have h5 := ih (k + 1) (by omega) (by omega)
    rw [← hw] at h5
    have hr : intC ((List.range (k + 1)).map f) = intC ((List.range k).map f) ++ [[.sc (.int .i64 (f k))]] := by rw [List.range_succ, List.map_append, intC_snoc]; rfl
    rw [hr] at h5
    exact h5
end Ev
open Go Ev
open Go.Proofs
set_option maxRecDepth 100000
set_option maxHeartbeats 4000000
set_option linter.unusedVariables false
namespace Ev
def allFrom (p : Nat → Bool) : Nat → Nat → Bool
  | _, 0 => true
  | i, n + 1 => p i && allFrom p (i + 1) n
theorem allFrom_iff {p : Nat → Bool} : ∀ {n i : Nat}, allFrom p i n = true ↔ ∀ j, i ≤ j → j < i + n → p j = true
  | 0, i => by simp [allFrom]; omega
  | n + 1, i => by
    unfold allFrom
    rw [Bool.and_eq_true, allFrom_iff (n := n)]
    constructor
    · intro ⟨h1, h2⟩ j hj hj'
      by_cases e : j = i
      · rw [e]; exact h1
      · exact h2 j (by omega) (by omega)
    · intro h
      exact ⟨h i (Nat.le_refl _) (by omega), fun j hj hj' => h j (by omega) (by omega)⟩
structure SmallO (o : Opr) : Prop where
  inl : o.inl.length ≤ 1048576
  tag : o.tag.length ≤ 1048576
structure SmallM (m : Modu) : Prop where
  ops : m.ops.length ≤ 1048576
  jumps : m.jumps.length ≤ 1048576
  all : ∀ o ∈ m.ops, SmallO o
structure Small (mods : List Modu) : Prop where
  len : mods.length ≤ 1048576
  all : ∀ m ∈ mods, SmallM m
noncomputable def opAtB (mods : List Modu) (ops : List Opr) (j : Nat) : Bool := match ops[j]? with
  | some o => opOkB mods ops j o
  | none => true
noncomputable def modS (mods : List Modu) (m : Modu) : Bool := allFrom (opAtB mods m.ops) 0 m.ops.length && (pb (oneofsOk m.ops (mostO m.ops)) && !(decide ((m.jumps.length : Int) > 0) && !eqb m.jumps (jumpsS m.ops)))
noncomputable def modAt (mods : List Modu) (k : Nat) : Bool := match mods[k]? with
  | some m => modS mods m
  | none => true
def shortAt (mods : List Modu) (k : Nat) : Bool := match mods[k]? with
  | some m => !decide ((m.ops.length : Int) > 40)
  | none => true
noncomputable def irS (mods : List Modu) : Bool := inB mods.length 1 30 && (allFrom (shortAt mods) 0 mods.length && allFrom (modAt mods) 0 mods.length)
theorem specIrOk (mods : List Modu) (hs : Small mods) : Fn Tryz.prog [] 30 [.agg [.sh 3 (Modu.css mods)]] [] (ret [.sc (.bool (irS mods))] []) := by
  have hl := Modu.css_len mods
  have hlen := hs.len
  have hr : irS mods = (inB mods.length 1 30 && (allFrom (shortAt mods) 0 mods.length && allFrom (modAt mods) 0 mods.length)) := rfl
  generalize irS mods = R at *
  refine fn_of Tryz.func30 d30 ?_
  conv => whnf
  refine Fn.use (specIn (Modu.css mods).length 1 30) ?_
  rw [hl]
  conv => whnf
  refine ⟨trivial, ?_⟩
  conv => whnf
  generalize inB mods.length 1 30 = c at *
  refine ifP_of (fun h => ?_) (fun h => ?_)
  · have h : c = false := by simpa using h
    subst h
    conv => whnf
    exact ⟨bl (by rw [hr]; rfl), rfl⟩
  have h : c = true := by simpa using h
  subst h
  rw [Bool.true_and] at hr
  conv => whnf
  refine loop_of (A := Nat) (fun k => ⟨[(1, .ptr 0 [] 0 0), (3, .sc (.int .i64 k))], [(0, some ⟨[[.sh 3 (Modu.css mods)]], true, 1, true⟩)], 1, 68, 0⟩) (fun k => mods.length - k) (fun k => k ≤ mods.length ∧ allFrom (shortAt mods) k (mods.length - k) = allFrom (shortAt mods) 0 mods.length) 0 rfl ⟨Nat.zero_le _, rfl⟩ ?_
  intro k ⟨hk, hout⟩ X ih
  conv => whnf
  rw [hl]
  refine ifP_of (fun h2 => ?_) (fun h2 => ?_)
  · have h2 : k < mods.length := by have := of_decide_eq_true h2; omega
    have hw : IntKind.i64.wrap ((k : Int) + 1) = ((k + 1 : Nat) : Int) := by rw [wrap64 (by omega) (by omega)]; omega
    rw [show mods.length - k = (mods.length - (k + 1)) + 1 by omega, allFrom, shortAt, List.getElem?_eq_getElem h2] at hout
    dsimp only at hout
    conv => whnf
    refine optP_of (Modu.css_get h2) ?_
    conv => whnf
    have hlo := Opr.css_len mods[k].ops
    rw [hlo]
    generalize decide ((mods[k].ops.length : Int) > 40) = d at *
    refine ifP_of (fun h3 => ?_) (fun h3 => ?_)
    · subst h3
      conv => whnf
      exact ⟨bl (by rw [hr, ← hout]; rfl), rfl⟩
    · subst h3
      conv => whnf
      have h5 := ih (k + 1) ⟨by omega, hout⟩ (by omega)
      rw [← hw] at h5
      exact h5
  have h2 : k = mods.length := by have := of_decide_eq_false h2; omega
  subst h2
  rw [Nat.sub_self] at hout
  rw [← hout, allFrom, Bool.true_and] at hr
  clear hout hk ih
  conv => whnf
  refine loop_of (A := Nat) (fun k => ⟨[(1, .ptr 0 [] 0 0), (4, .sc (.int .i64 k))], [(0, some ⟨[[.sh 3 (Modu.css mods)]], true, 1, true⟩)], 1, 68, 0⟩) (fun k => mods.length - k) (fun k => k ≤ mods.length ∧ allFrom (modAt mods) k (mods.length - k) = R) 0 rfl ⟨Nat.zero_le _, hr.symm⟩ ?_
  clear hr
  intro k ⟨hk, hout⟩ X ih
  conv => whnf
  rw [hl]
  refine ifP_of (fun h2 => ?_) (fun h2 => ?_)
  · have h2 : k < mods.length := by have := of_decide_eq_true h2; omega
    have hw : IntKind.i64.wrap ((k : Int) + 1) = ((k + 1 : Nat) : Int) := by rw [wrap64 (by omega) (by omega)]; omega
    rw [show mods.length - k = (mods.length - (k + 1)) + 1 by omega, allFrom, modAt, List.getElem?_eq_getElem h2] at hout
    dsimp only at hout
    have hsm := hs.all _ (List.getElem_mem h2)
    have hg := Modu.css_get h2
    generalize mods[k] = m at *
    obtain ⟨ops, jumps, cached⟩ := m
    obtain ⟨s1, s2, s3⟩ := hsm
    dsimp only at s1 s2 s3
    have hms : modS mods ⟨ops, jumps, cached⟩ = (allFrom (opAtB mods ops) 0 ops.length && (pb (oneofsOk ops (mostO ops)) && !(decide ((jumps.length : Int) > 0) && !eqb jumps (jumpsS ops)))) := rfl
    generalize modS mods ⟨ops, jumps, cached⟩ = ms at *
    have hlo := Opr.css_len ops
    conv => whnf
    refine optP_of (hg) ?_
    conv => whnf
    refine loop_of (A := Nat) (fun i => ⟨[(1, .ptr 0 [] 0 0), (4, .sc (.int .i64 k)), (5, .ptr 1 [] 0 0), (6, .sc (.int .i64 i))], [(0, some ⟨[[.sh 3 (Modu.css mods)]], true, 1, true⟩), (1, some ⟨[[.sh 9 (Opr.css ops), .sh 1 (intC jumps), .sc (.bool cached)]], true, 3, true⟩)], 2, 68, 0⟩) (fun i => ops.length - i) (fun i => i ≤ ops.length ∧ allFrom (opAtB mods ops) i (ops.length - i) = allFrom (opAtB mods ops) 0 ops.length) 0 rfl ⟨Nat.zero_le _, rfl⟩ ?_
    intro i ⟨hi, hout2⟩ Y ih2
    conv => whnf
    rw [hlo]
    refine ifP_of (fun h3 => ?_) (fun h3 => ?_)
    · have h3 : i < ops.length := by have := of_decide_eq_true h3; omega
      have hw3 : IntKind.i64.wrap ((i : Int) + 1) = ((i + 1 : Nat) : Int) := by rw [wrap64 (by omega) (by omega)]; omega
      rw [show ops.length - i = (ops.length - (i + 1)) + 1 by omega, allFrom, opAtB, List.getElem?_eq_getElem h3] at hout2
      dsimp only at hout2
      obtain ⟨u1, u2⟩ := s3 _ (List.getElem_mem h3)
      conv => whnf
      refine Fn.use (specOpOk mods ⟨ops, jumps, cached⟩ i h3 s1 hlen u1 u2) ?_
      conv => whnf
      first | refine ⟨trivial, ?_⟩ | refine ⟨⟨rfl, clr_of rfl⟩, ?_⟩
      conv => whnf
      dsimp only at *
      generalize opOkB mods ops i ops[i] = b at *
      refine ifP_of (fun h4 => ?_) (fun h4 => ?_)
      · have h4 : b = false := by simpa using h4
        subst h4
        conv => whnf
        exact ⟨bl (by rw [← hout, hms, ← hout2]; rfl), rfl⟩
      · have h4 : b = true := by simpa using h4
        subst h4
        conv => whnf
        have h5 := ih2 (i + 1) ⟨by omega, hout2⟩ (by omega)
        rw [← hw3] at h5
        exact h5
    have h3 : i = ops.length := by have := of_decide_eq_false h3; omega
    subst h3
    rw [Nat.sub_self] at hout2
    rw [← hout2, allFrom, Bool.true_and] at hms
    have H1 := specOneofsOk ⟨ops, jumps, cached⟩ s1 (fun o ho => by
      have ho : o ∈ ops := ho
      obtain ⟨q, hq, rfl⟩ := List.getElem_of_mem ho
      rw [allFrom] at hout2
      have := allFrom_iff.1 hout2.symm q (Nat.zero_le _) (by omega)
      unfold opAtB at this
      rw [List.getElem?_eq_getElem hq] at this
      unfold opOkB shapeOk at this
      simp only [Bool.and_eq_true] at this
      have := inB_iff.1 this.1.2.2.2.2.1
      omega)
    have H2 := specJumps ⟨ops, jumps, cached⟩ s1
    have H3 := specSameInts jumps (jumpsS ops) s2
    dsimp only at H1 H2
    generalize pb (oneofsOk ops (mostO ops)) = po at *
    generalize eqb jumps (jumpsS ops) = eb at *
    have hlj := intC_len jumps
    rw [← hlj] at hms
    conv => whnf
    repeat' (first
      | (refine Fn.use (H1) ?_; (conv => whnf); (first | refine ⟨trivial, ?_⟩ | refine ⟨⟨rfl, clr_of rfl⟩, ?_⟩); (conv => whnf))
      | (refine Fn.use (H2) ?_; (conv => whnf); (first | refine ⟨trivial, ?_⟩ | refine ⟨⟨rfl, clr_of rfl⟩, ?_⟩); (conv => whnf))
      | (refine Fn.use (H3) ?_; (conv => whnf); (first | refine ⟨trivial, ?_⟩ | refine ⟨⟨rfl, clr_of rfl⟩, ?_⟩); (conv => whnf))
      | (refine chkP_of ?hchk ?_; (case hchk => simp; done); (conv => whnf))
      | (refine ifP_of (fun _ => ?_) (fun _ => ?_) <;> (conv => whnf)))
    all_goals first | exact ⟨bl (by rw [← hout, hms]; clear ih ih2 H1 H2 H3; simp_all), rfl⟩ | skip
    all_goals
      have h5 := ih (k + 1) ⟨by omega, by rw [← hout, hms]; clear ih ih2 H1 H2 H3; simp_all⟩ (by omega)
      rw [← hw] at h5
      exact h5
  have h2 : k = mods.length := by have := of_decide_eq_false h2; omega
  subst h2
  rw [Nat.sub_self, allFrom] at hout
  conv => whnf
  exact ⟨bl hout, rfl⟩
end Ev
open Go Ev
open Go.Proofs
set_option maxRecDepth 100000
set_option maxHeartbeats 4000000
set_option linter.unusedVariables false
namespace Ev
theorem Opr.css_mapc : ∀ l : List Opr, Opr.css l = l.map Opr.cells
  | [] => rfl
  | a :: l => by rw [Opr.css, Opr.cs_eq, Opr.css_mapc l]; rfl
theorem Opr.css_part (l : List Opr) (a b : Nat) : ((Opr.css l).take b).drop a = Opr.css ((l.take b).drop a) := by rw [Opr.css_mapc, Opr.css_mapc, List.map_drop, List.map_take]
theorem implMarks (mods : List Modu) (ops : List Opr) (j : Nat) (hj : j < ops.length) (hb : ops.length ≤ 1048576) (hm : mods.length ≤ 1048576) (hs : SmallO ops[j]) (hrf : ops[j].kind = 16 → ∃ r : Nat, ops[j].ref = r ∧ r < mods.length) : Fn Tryz.prog [] 67 [.agg [.sh 3 (Modu.css mods)], .sh 9 (Opr.css ops), .sc (.int .i64 j)] [] (ret [.sc (.bool (marksB mods ops[j] && runOk ops j ops[j]))] []) := by
  generalize ho : ops[j] = o at *
  have hget : (Opr.css ops)[((j : Nat) : Int).toNat]? = some o.cells := by rw [← ho]; exact Opr.css_get hj
  have hlo := Opr.css_len ops
  obtain ⟨hi, ht⟩ := hs
  obtain ⟨num, kind, ref, rep, oneof, tag, quick, run, inl⟩ := o
  dsimp only at hi ht hrf
  have lt := byteC_len tag
  have li := Opr.css_len inl
  have hmk : marksB mods ⟨num, kind, ref, rep, oneof, tag, quick, run, inl⟩ = (tagOk ⟨num, kind, ref, rep, oneof, tag, quick, run, inl⟩ && (quickOk ⟨num, kind, ref, rep, oneof, tag, quick, run, inl⟩ && inlOk mods ⟨num, kind, ref, rep, oneof, tag, quick, run, inl⟩)) := rfl
  have htg : tagOk ⟨num, kind, ref, rep, oneof, tag, quick, run, inl⟩ = !(decide ((tag.length : Int) > 0) && !eqb tag (tagB num (Opr.wire ⟨num, kind, ref, rep, oneof, tag, quick, run, inl⟩))) := rfl
  have hqk : quickOk ⟨num, kind, ref, rep, oneof, tag, quick, run, inl⟩ = !(quick && (wireOf kind != 0)) := rfl
  have hrk : runOk ops j ⟨num, kind, ref, rep, oneof, tag, quick, run, inl⟩ = ((run == 0) || (inB run 2 (ops.length - j) && runFrom ops j 0 run.toNat)) := rfl
  have hin : inlOk mods ⟨num, kind, ref, rep, oneof, tag, quick, run, inl⟩ = ((inl.length == 0) || ((kind == 16) && (match mods[ref.toNat]? with
    | some m => (inl.length == m.ops.length) && pairsOk inl m.ops
    | none => false))) := rfl
  generalize hO : (marksB mods ⟨num, kind, ref, rep, oneof, tag, quick, run, inl⟩ && runOk ops j ⟨num, kind, ref, rep, oneof, tag, quick, run, inl⟩) = out
  have HT := implTagOf ⟨num, kind, ref, rep, oneof, tag, quick, run, inl⟩
  have HS := equalByte_ok tag (tagB num (Opr.wire ⟨num, kind, ref, rep, oneof, tag, quick, run, inl⟩)) ht
  dsimp only at HT
  generalize eqb tag (tagB num (Opr.wire ⟨num, kind, ref, rep, oneof, tag, quick, run, inl⟩)) = sb at *
  generalize tagOk ⟨num, kind, ref, rep, oneof, tag, quick, run, inl⟩ = tk at *
  generalize quickOk ⟨num, kind, ref, rep, oneof, tag, quick, run, inl⟩ = qk at *
  generalize inlOk mods ⟨num, kind, ref, rep, oneof, tag, quick, run, inl⟩ = ik at *
  generalize runOk ops j ⟨num, kind, ref, rep, oneof, tag, quick, run, inl⟩ = rk at *
  rw [hmk] at hO
  clear hmk
  have HK := implWire kind
  generalize wireOf kind = wk at *
  rw [← lt] at htg
  refine fn_of Tryz.func67 d67 ?_
  conv => whnf
  refine optP_of (hget) ?_
  conv => whnf
  refine regP_by (fun t => t = ⟨[(1, .sh 9 (Opr.css ops)), (2, .sc (.int .i64 j)), (3, .ptr 0 [] 0 0), (7, .ptr 1 [] 0 0)], [(0, some ⟨[[.sh 3 (Modu.css mods)]], true, 1, true⟩), (1, some ⟨[[.sc (.int .i64 num), .sc (.int .i64 kind), .sc (.int .i64 ref), .sc (.bool rep), .sc (.int .i64 oneof), .sh 1 (byteC tag), .sc (.bool quick), .sc (.int .i64 run), .sh 9 (Opr.css inl)]], true, 9, true⟩)], 2, 97, 0⟩ ∧ (tk && qk) = true) ?_ ?_
  · have hno : (tk && qk) = false → false = out := fun h => by rw [← hO]; cases tk <;> cases qk <;> simp_all
    repeat' (first
      | (refine Fn.use (HT) ?_; (conv => whnf); (first | refine ⟨trivial, ?_⟩ | refine ⟨⟨rfl, clr_of rfl⟩, ?_⟩); (conv => whnf))
      | (refine Fn.use (HS) ?_; (conv => whnf); (first | refine ⟨trivial, ?_⟩ | refine ⟨⟨rfl, clr_of rfl⟩, ?_⟩); (conv => whnf))
      | (refine Fn.use (HK) ?_; (conv => whnf); (first | refine ⟨trivial, ?_⟩ | refine ⟨⟨rfl, clr_of rfl⟩, ?_⟩); (conv => whnf))
      | (refine chkP_of ?hchk ?_; (case hchk => simp; done); (conv => whnf))
      | (refine ifP_of (fun _ => ?_) (fun _ => ?_) <;> (conv => whnf)))
    all_goals clear hO hrk hin
    all_goals first | exact ⟨bl (hno (by rw [htg, hqk]; clear HT HS HK hno; simp_all)), rfl⟩ | exact ⟨rfl, by rw [htg, hqk]; clear HT HS HK hno; simp_all⟩
  rintro t ⟨rfl, h2⟩
  have h2 : tk = true ∧ qk = true := by simpa using h2
  obtain ⟨rfl, rfl⟩ := h2
  clear htg hqk HT HS HK
  have hO : (ik && rk) = out := by rw [← hO]; simp
  conv => whnf
  refine regP_by (fun t => t = ⟨[(3, .ptr 0 [] 0 0), (7, .ptr 1 [] 0 0)], [(0, some ⟨[[.sh 3 (Modu.css mods)]], true, 1, true⟩), (1, some ⟨[[.sc (.int .i64 num), .sc (.int .i64 kind), .sc (.int .i64 ref), .sc (.bool rep), .sc (.int .i64 oneof), .sh 1 (byteC tag), .sc (.bool quick), .sc (.int .i64 run), .sh 9 (Opr.css inl)]], true, 9, true⟩)], 2, 97, 0⟩ ∧ rk = true) ?_ ?_
  · have hno : rk = false → false = out := fun h => by rw [← hO, h]; simp
    refine ifP_of (fun h => ?_) (fun h => ?_)
    rotate_left
    · have h : (run == 0) = true := by have h : (run != 0) = false := h; simpa using h
      conv => whnf
      exact ⟨rfl, by rw [hrk, h]; rfl⟩
    have h : (run == 0) = false := by have h : (run != 0) = true := h; simpa using h
    rw [h, Bool.false_or] at hrk
    have hwl : IntKind.i64.wrap ((ops.length : Int) - (j : Int)) = (ops.length : Int) - j := wrap64 (by omega) (by omega)
    have hib : inB run 2 (ops.length - j) = (decide (run ≥ 2) && decide (run ≤ (ops.length : Int) - j)) := rfl
    conv => whnf
    refine ifP_of (fun h2 => ?_) (fun h2 => ?_)
    · have h2 : run < 2 := of_decide_eq_true h2
      conv => whnf
      exact ⟨bl (hno (by rw [hrk, hib, decide_eq_false (by omega)]; rfl)), rfl⟩
    have h2 : ¬ run < 2 := of_decide_eq_false h2
    conv => whnf
    rw [hlo, hwl]
    refine ifP_of (fun h3 => ?_) (fun h3 => ?_)
    · have h3 : run > (ops.length : Int) - j := of_decide_eq_true h3
      conv => whnf
      exact ⟨bl (hno (by rw [hrk, hib, decide_eq_false (show ¬ run ≤ (ops.length : Int) - j by omega)]; simp)), rfl⟩
    have h3 : ¬ run > (ops.length : Int) - j := of_decide_eq_false h3
    obtain ⟨n, rfl⟩ : ∃ n : Nat, run = (n + 1 : Nat) := ⟨(run - 1).toNat, by omega⟩
    rw [hib, decide_eq_true (by omega), decide_eq_true (by omega), Bool.true_and, Bool.true_and, Int.toNat_natCast, runFrom, Nat.add_zero, List.getElem?_eq_getElem hj, ho] at hrk
    have HB := implBlock ⟨num, kind, ref, rep, oneof, tag, quick, ((n + 1 : Nat) : Int), inl⟩
    dsimp only at hrk HB
    generalize Opr.block ⟨num, kind, ref, rep, oneof, tag, quick, ((n + 1 : Nat) : Int), inl⟩ = b0 at *
    have hrk : rk = (b0 && runFrom ops j 1 n) := by rw [hrk]; simp
    conv => whnf
    refine Fn.use (HB) ?_
    conv => whnf
    first | refine ⟨trivial, ?_⟩ | refine ⟨⟨rfl, clr_of rfl⟩, ?_⟩
    conv => whnf
    refine ifP_of (fun h4 => ?_) (fun h4 => ?_)
    · have h4 : b0 = false := by simpa using h4
      conv => whnf
      exact ⟨bl (hno (by rw [hrk, h4]; rfl)), rfl⟩
    have h4 : b0 = true := by simpa using h4
    subst h4
    rw [Bool.true_and] at hrk
    have hw1 : IntKind.i64.wrap ((j : Int) + 1) = ((j + 1 : Nat) : Int) := by rw [wrap64 (by omega) (by omega)]; omega
    have hw2 : IntKind.i64.wrap ((j : Int) + ((n + 1 : Nat) : Int)) = ((j + (n + 1) : Nat) : Int) := by rw [wrap64 (by omega) (by omega)]; omega
    have hsl := Opr.css_part ops (j + 1) (j + (n + 1))
    generalize hys : (ops.take (j + (n + 1))).drop (j + 1) = ys at *
    have hyl : ys.length = n := by rw [← hys]; simp; omega
    have hyg : ∀ k (hk : k < n), ys[k]? = ops[j + (k + 1)]? := fun k hk => by rw [← hys, List.getElem?_drop, List.getElem?_take, if_pos (by omega), show j + 1 + k = j + (k + 1) by omega]
    conv => whnf
    rw [hw1, hw2, hlo]
    conv => whnf
    repeat (refine chkP_of ?hchk ?_; (case hchk => first | exact decide_eq_true (by omega) | (simp; done) | (simp; omega)); (conv => whnf))
    rw [Int.toNat_natCast, Int.toNat_natCast, hsl]
    have hly := Opr.css_len ys
    rw [hly, hyl]
    refine loop_of (A := Nat) (fun k => ⟨[(3, .ptr 0 [] 0 0), (7, .ptr 1 [] 0 0), (63, .sh 9 (Opr.css ys)), (64, .sc (.int .i64 n)), (65, .sc (.int .i64 k))], [(0, some ⟨[[.sh 3 (Modu.css mods)]], true, 1, true⟩), (1, some ⟨[[.sc (.int .i64 num), .sc (.int .i64 kind), .sc (.int .i64 ref), .sc (.bool rep), .sc (.int .i64 oneof), .sh 1 (byteC tag), .sc (.bool quick), .sc (.int .i64 ((n + 1 : Nat) : Int)), .sh 9 (Opr.css inl)]], true, 9, true⟩)], 2, 97, 0⟩) (fun k => n - k) (fun k => k ≤ n ∧ runFrom ops j (k + 1) (n - k) = rk) 0 rfl ⟨Nat.zero_le _, hrk.symm⟩ ?_
    intro k ⟨hk, hout⟩ X ih
    conv => whnf
    refine ifP_of (fun h5 => ?_) (fun h5 => ?_)
    · have h5 : k < n := by have := of_decide_eq_true h5; omega
      have hw : IntKind.i64.wrap ((k : Int) + 1) = ((k + 1 : Nat) : Int) := by rw [wrap64 (by omega) (by omega)]; omega
      obtain ⟨pp, hpp⟩ : ∃ pp, ops[j + (k + 1)]? = some pp := ⟨_, List.getElem?_eq_getElem (by omega)⟩
      have hg : (Opr.css ys)[((k : Nat) : Int).toNat]? = some pp.cells := by
        rw [Int.toNat_natCast, Opr.css_get (show k < ys.length by omega)]
        have := hyg k h5
        rw [hpp, List.getElem?_eq_getElem (by omega)] at this
        rw [Option.some.inj this]
      rw [show n - k = (n - (k + 1)) + 1 by omega, runFrom, hpp] at hout
      dsimp only at hout
      rw [decide_eq_true (show (((k + 1 : Nat) : Int) > 0) by omega), Bool.true_and] at hout
      have HB := implBlock pp
      generalize pp.block = bk at *
      have hyes : ∀ b : Bool, (bk && !(pp.run != 0)) = b → (b && runFrom ops j (k + 1 + 1) (n - (k + 1))) = rk := fun b hb => by rw [← hb]; exact hout
      generalize hpr : (pp.run != 0) = pr at *
      obtain ⟨p1, p2, p3, p4, p5, p6, p7, p8, p9⟩ := pp
      dsimp only at hpr
      repeat' (first
        | (refine Fn.use (HB) ?_; (conv => whnf); (first | refine ⟨trivial, ?_⟩ | refine ⟨⟨rfl, clr_of rfl⟩, ?_⟩); (conv => whnf))
        | (refine optP_of (hg) ?_; (conv => whnf))
        | (refine chkP_of ?hchk ?_; (case hchk => simp; done); (conv => whnf))
        | (refine ifP_of (fun _ => ?_) (fun _ => ?_) <;> (conv => whnf)))
      all_goals clear hout HB hg hrk
      all_goals first | exact ⟨bl (hno (hyes false (by clear ih hno hyes; simp_all)).symm), rfl⟩ | skip
      all_goals
        have h5 := ih (k + 1) ⟨by omega, (hyes true (by clear ih hno hyes; simp_all))⟩ (by omega)
        rw [← hw] at h5
        exact h5
    have h5 : k = n := by have := of_decide_eq_false h5; omega
    subst h5
    rw [Nat.sub_self] at hout
    conv => whnf
    exact ⟨rfl, hout.symm⟩
  rintro t ⟨rfl, rfl⟩
  have hO : ik = out := by rw [← hO]; simp
  clear hrk
  conv => whnf
  rw [li]
  refine ifP_of (fun h => ?_) (fun h => ?_)
  · have h : (inl.length == 0) = true := by have h : ((inl.length : Int) == 0) = true := h; simp at h; simp [h]
    conv => whnf
    exact ⟨bl (by rw [← hO, hin, h]; rfl), rfl⟩
  have h : (inl.length == 0) = false := by have h : ((inl.length : Int) == 0) = false := h; simp at h; simp [h]
  rw [h, Bool.false_or] at hin
  conv => whnf
  refine ifP_of (fun hk => ?_) (fun hk => ?_)
  · have hk : kind = 16 := by have hk : (kind == 16) = true := hk; simpa using hk
    obtain ⟨r, rfl, hr⟩ := hrf hk
    rw [Int.toNat_natCast, List.getElem?_eq_getElem hr, hk] at hin
    dsimp only at hin
    rw [show ((16 : Int) == 16) = true from rfl, Bool.true_and] at hin
    have HP := implPairs inl mods[r].ops hi
    rw [← hin, hO] at HP
    repeat' (first
      | (refine Fn.use (HP) ?_; (conv => whnf); (first | refine ⟨trivial, ?_⟩ | refine ⟨⟨rfl, clr_of rfl⟩, ?_⟩); (conv => whnf))
      | (refine optP_of (Modu.css_get hr) ?_; (conv => whnf))
      | (refine chkP_of ?hchk ?_; (case hchk => simp; done); (conv => whnf))
      | (refine ifP_of (fun _ => ?_) (fun _ => ?_) <;> (conv => whnf)))
    all_goals exact ⟨rfl, rfl⟩
  · have hk : (kind == 16) = false := hk
    rw [hk, Bool.false_and] at hin
    conv => whnf
    exact ⟨bl (by rw [← hO, hin]), rfl⟩
end Ev
open Go Ev
open Go.Proofs
set_option maxRecDepth 100000
set_option maxHeartbeats 4000000
set_option linter.unusedVariables false
namespace Ev
/-- N places, the first k of them told. -/
def rowsTo (f : Nat → Int) (N k : Nat) : List (List V) := (List.range k).map (fun i => [.sc (.int .i64 (f i))]) ++ List.replicate (N - k) [.sc (.int .i64 0)]
theorem rowsTo_zero (f : Nat → Int) (N : Nat) : List.replicate N [V.sc (.int .i64 0)] = rowsTo f N 0 := by simp [rowsTo]
theorem rowsTo_len (f : Nat → Int) {N k : Nat} (h : k ≤ N) : (rowsTo f N k).length = N := by simp [rowsTo]; omega
theorem rowsTo_get (f : Nat → Int) {N k : Nat} (h : k < N) : (rowsTo f N k)[k]? = some [.sc (.int .i64 0)] := by
  unfold rowsTo
  rw [List.getElem?_append_right (by simp), List.length_map, List.length_range, Nat.sub_self, List.getElem?_replicate, if_pos (by omega)]
theorem rowsTo_set (f : Nat → Int) {N k : Nat} (h : k < N) : (rowsTo f N k).set k [.sc (.int .i64 (f k))] = rowsTo f N (k + 1) := by
  unfold rowsTo
  rw [List.set_append_right _ _ (by simp), List.length_map, List.length_range, Nat.sub_self, show N - k = (N - (k + 1)) + 1 by omega, List.replicate_succ, List.set_cons_zero, List.range_succ, List.map_append, List.append_assoc]
  rfl
theorem rowsTo_all (f : Nat → Int) (N : Nat) : rowsTo f N N = intC ((List.range N).map f) := by
  unfold rowsTo intC
  rw [Nat.sub_self, List.replicate_zero, List.append_nil, List.map_map]; rfl
theorem implJumps (a : Modu) (hb : a.ops.length ≤ 1048576) (h0 : -1 ≤ lastN a.ops) : Fn Tryz.prog [] 66 [.agg a.acells] [] (ret [.own true 1 (intC (jumpsI a.ops))] []) := by
  obtain ⟨ops, jumps, cached⟩ := a
  dsimp only at hb h0 ⊢
  have hl := Opr.css_len ops
  refine fn_of Tryz.func66 (by kernel_rfl) ?_
  conv => whnf
  rw [hl]
  by_cases hn : ops.length = 0
  · refine ifP_of (fun h => ?_) (fun h => ?_)
    · conv => whnf
      have : jumpsI ops = [] := by unfold jumpsI jumpsBy; rw [if_pos (.inl hn)]
      rw [this]
      exact ⟨rfl, rfl⟩
    · rw [hn] at h; cases h
  have hw1 : IntKind.i64.wrap ((ops.length : Int) - 1) = ((ops.length - 1 : Nat) : Int) := by rw [wrap64 (by omega) (by omega)]; omega
  obtain ⟨z, hz⟩ : ∃ z, ops[ops.length - 1]? = some z := ⟨_, List.getElem?_eq_getElem (by omega)⟩
  have hln : lastN ops = z.num := by unfold lastN; rw [hz]
  have hg : (Opr.css ops)[(IntKind.i64.wrap ((ops.length : Int) - 1)).toNat]? = some z.cells := by
    rw [hw1, Int.toNat_natCast, Opr.css_get (by omega)]
    rw [List.getElem?_eq_getElem (by omega)] at hz
    rw [Option.some.inj hz]
  have hz0 : decide (0 ≤ IntKind.i64.wrap ((ops.length : Int) - 1)) = true := by rw [hw1]; simp
  refine ifP_of (fun h => ?_) (fun h => ?_)
  · exact absurd (by have h : ((ops.length : Int) == 0) = true := h; simp at h; rw [h]; rfl) hn
  conv => whnf
  repeat (refine chkP_of ?hchk ?_; (case hchk => first | exact decide_eq_true (by omega) | (simp; done) | (simp; omega) | exact hz0); (conv => whnf))
  refine optP_of (hg) ?_
  conv => whnf
  refine ifP_of (fun h1 => ?_) (fun h1 => ?_)
  · have h1 : z.num ≥ 64 := of_decide_eq_true h1
    have : jumpsI ops = [] := by unfold jumpsI jumpsBy; rw [if_pos (.inr (by rw [hln]; exact h1))]
    rw [this]
    conv => whnf
    exact ⟨rfl, rfl⟩
  have h1 : ¬ z.num ≥ 64 := of_decide_eq_false h1
  have hj : jumpsI ops = (List.range (z.num + 1).toNat).map fun k : Nat => firstBy (fun o => o.num == (k : Int)) ops 0 := by unfold jumpsI jumpsBy; rw [hln, if_neg (by omega)]
  generalize hf : (fun k : Nat => firstBy (fun o => o.num == (k : Int)) ops 0) = f at hj
  obtain ⟨N, hN⟩ : ∃ N : Nat, z.num + 1 = N := ⟨(z.num + 1).toNat, by omega⟩
  rw [hN, Int.toNat_natCast] at hj
  have hwN : IntKind.i64.wrap (z.num + 1) = (N : Int) := by rw [wrap64 (by omega) (by omega)]; exact hN
  conv => whnf
  repeat (refine chkP_of ?hchk ?_; (case hchk => first | exact decide_eq_true (by omega) | (simp; done) | (simp; omega) | exact hz0); (conv => whnf))
  refine optP_of (hg) ?_
  conv => whnf
  rw [hwN]
  conv => whnf
  refine chkP_of (by simp; omega) ?_
  conv => whnf
  refine loop_of (A := Nat) (fun k => ⟨[(1, .ptr 0 [] 0 0), (4, .hdr 1 []), (31, .sc (.int .i64 N)), (32, .sc (.int .i64 k))], [(0, some ⟨[[.sh 9 (Opr.css ops), .sh 1 (intC jumps), .sc (.bool cached)]], true, 3, true⟩), (1, some ⟨rowsTo f N k, true, 1, false⟩)], 2, 44, 0⟩) (fun k => N - k) (fun k => k ≤ N) 0 (by rw [← rowsTo_zero]; simp only [List.length_replicate, Int.toNat_natCast]; rfl) (Nat.zero_le _) ?_
  intro k hk X ih
  conv => whnf
  refine ifP_of (fun h2 => ?_) (fun h2 => ?_)
  · have h2 : k < N := by have := of_decide_eq_true h2; omega
    have hw : IntKind.i64.wrap ((k : Int) + 1) = ((k + 1 : Nat) : Int) := by rw [wrap64 (by omega) (by omega)]; omega
    have HI := indexBy121 ops k hb
    have hfk : firstBy (fun a => a.num == (k : Int)) ops 0 = f k := by rw [← hf]
    rw [hfk] at HI
    repeat' (first
      | (refine Fn.use (HI) ?_; (conv => whnf); (first | refine ⟨trivial, ?_⟩ | refine ⟨⟨rfl, clr_of rfl⟩, ?_⟩); (conv => whnf))
      | (refine optP_of (rowsTo_get f h2) ?_; (conv => whnf))
      | (refine chkP_of ?hchk ?_; (case hchk => simp; done); (conv => whnf))
      | (refine ifP_of (fun _ => ?_) (fun _ => ?_) <;> (conv => whnf)))
    have h5 := ih (k + 1) (by omega) (by omega)
    rw [← hw, ← rowsTo_set f h2] at h5
    exact h5
  have h2 : k = N := by have := of_decide_eq_false h2; omega
  subst h2
  conv => whnf
  rw [hj, ← rowsTo_all]
  exact ⟨rfl, rfl⟩
end Ev
open Go Ev
open Go.Proofs
set_option maxRecDepth 100000
set_option maxHeartbeats 4000000
set_option linter.unusedVariables false
namespace Ev
def shapeI (mods : List Modu) (ops : List Opr) (j : Nat) (o : Opr) : Bool := numB o.num && (prevOk ops j o && (inB o.kind 1 17 && (inB o.ref 0 (refsOf mods o - 1) && (!decide (o.oneof < 0) && !(o.rep && (o.oneof != 0))))))
def shapeAt (mods : List Modu) (ops : List Opr) (j : Nat) : Bool := match ops[j]? with
  | some o => shapeI mods ops j o
  | none => true
noncomputable def opsI (mods : List Modu) (ops : List Opr) : Bool := allFrom (shapeAt mods ops) 0 ops.length && (!(decide ((ops.length : Int) > 40) || decide (mostO ops > ops.length)) && pb (oneofsOk ops (mostO ops)))
theorem max_up (m : Int) (o : Opr) : max m o.oneof = upO m o := by unfold upO; rw [Int.max_def]; split <;> split <;> omega
theorem met_first (ops : List Opr) (k : Int) : decide (firstBy (fun a => a.oneof == k) ops 0 ≥ 0) = pb (metO ops k) := by
  rcases firstBy_ge (p := fun a => a.oneof == k) ops 0 with ⟨h1, h2⟩ | ⟨j, h1, h2, h3, h4, h5, h6⟩
  · rw [h1, pb_no]
    · rfl
    · rintro ⟨o, ho, e⟩
      have := h2 o ho
      simp [e] at this
  · rw [h1, pb_yes]
    · simp
    · exact ⟨_, List.getElem_mem h4, by simpa using h5⟩
theorem implOps (mods : List Modu) (ops : List Opr) (hb : ops.length ≤ 1048576) (hm : mods.length ≤ 1048576) : Fn Tryz.prog [] 64 [.agg [.sh 3 (Modu.css mods)], .sh 9 (Opr.css ops)] [] (ret [.sc (.bool (opsI mods ops))] []) := by
  have hlo := Opr.css_len ops
  have hlm := Modu.css_len mods
  have hr : opsI mods ops = (allFrom (shapeAt mods ops) 0 ops.length && (!(decide ((ops.length : Int) > 40) || decide (mostO ops > ops.length)) && pb (oneofsOk ops (mostO ops)))) := rfl
  generalize opsI mods ops = R at *
  have hmost0 := (mostO_le ops 0).1
  have hmo : ops.foldl upO 0 = mostO ops := rfl
  rw [hmo] at hmost0
  refine fn_of Tryz.func64 d64 ?_
  conv => whnf
  rw [hlo]
  refine loop_of (A := Nat × Int) (fun x => ⟨[(1, .sh 9 (Opr.css ops)), (2, .ptr 0 [] 0 0), (5, .sc (.int .i64 x.2)), (9, .sh 9 (Opr.css ops)), (10, .sc (.int .i64 ops.length)), (11, .sc (.int .i64 x.1))], [(0, some ⟨[[.sh 3 (Modu.css mods)]], true, 1, true⟩)], 1, 102, 0⟩) (fun x => ops.length - x.1) (fun x => x.1 ≤ ops.length ∧ allFrom (shapeAt mods ops) x.1 (ops.length - x.1) = allFrom (shapeAt mods ops) 0 ops.length ∧ (ops.drop x.1).foldl upO x.2 = mostO ops) (0, 0) rfl ⟨Nat.zero_le _, rfl, rfl⟩ ?_
  intro ⟨j, mo⟩ ⟨hj0, hout, hmax⟩ X ih
  dsimp only at hj0 hout hmax
  conv => whnf
  refine ifP_of (fun h1 => ?_) (fun h1 => ?_)
  · have h1 : j < ops.length := by have := of_decide_eq_true h1; dsimp only at this; omega
    have hw : IntKind.i64.wrap ((j : Int) + 1) = ((j + 1 : Nat) : Int) := by rw [wrap64 (by omega) (by omega)]; omega
    rw [show ops.length - j = (ops.length - (j + 1)) + 1 by omega, allFrom, shapeAt, List.getElem?_eq_getElem h1] at hout
    rw [List.drop_eq_getElem_cons h1, List.foldl_cons, ← max_up] at hmax
    dsimp only at hout
    have hg := Opr.css_get h1
    generalize ho : ops[j] = o at *
    obtain ⟨num, kind, ref, rep, oneof, tag, quick, run, inl⟩ := o
    dsimp only at hmax
    have hsh : shapeI mods ops j ⟨num, kind, ref, rep, oneof, tag, quick, run, inl⟩ = (numB num && (prevOk ops j ⟨num, kind, ref, rep, oneof, tag, quick, run, inl⟩ && (inB kind 1 17 && (inB ref 0 ((if kind = 16 then (mods.length : Int) else 1) - 1) && (!decide (oneof < 0) && !(rep && (oneof != 0))))))) := rfl
    generalize shapeI mods ops j ⟨num, kind, ref, rep, oneof, tag, quick, run, inl⟩ = sh at *
    have hno : sh = false → false = R := fun h => by rw [hr, ← hout, h]; rfl
    generalize hP : (numB num && (prevOk ops j ⟨num, kind, ref, rep, oneof, tag, quick, run, inl⟩ && (inB kind 1 17 && (!decide (oneof < 0) && !(rep && (oneof != 0)))))) = pre at *
    have hsh2 : sh = (pre && inB ref 0 ((if kind = 16 then (mods.length : Int) else 1) - 1)) := by
      rw [hsh, ← hP]
      cases numB num <;> cases prevOk ops j ⟨num, kind, ref, rep, oneof, tag, quick, run, inl⟩ <;> cases inB kind 1 17 <;> cases inB ref 0 ((if kind = 16 then (mods.length : Int) else 1) - 1) <;> simp
    clear hsh
    have hno1 : pre = false → false = R := fun h => hno (by rw [hsh2, h]; rfl)
    conv => whnf
    refine optP_of (hg) ?_
    conv => whnf
    refine regP_by (fun t => t = ⟨[(1, .sh 9 (Opr.css ops)), (2, .ptr 0 [] 0 0), (5, .sc (.int .i64 mo)), (7, .ptr 1 [] 0 0), (9, .sh 9 (Opr.css ops)), (10, .sc (.int .i64 ops.length)), (11, .sc (.int .i64 j))], [(0, some ⟨[[.sh 3 (Modu.css mods)]], true, 1, true⟩), (1, some ⟨[[.sc (.int .i64 num), .sc (.int .i64 kind), .sc (.int .i64 ref), .sc (.bool rep), .sc (.int .i64 oneof), .sh 1 (byteC tag), .sc (.bool quick), .sc (.int .i64 run), .sh 9 (Opr.css inl)]], true, 9, true⟩)], 2, 102, 0⟩ ∧ pre = true) ?_ ?_
    · clear hsh2 hno hout hmax
      rcases j with _ | j
      · rw [show prevOk ops 0 ⟨num, kind, ref, rep, oneof, tag, quick, run, inl⟩ = true from rfl] at hP
        repeat' (first
          | (refine Fn.use (implNum num) ?_; (conv => whnf); (first | refine ⟨trivial, ?_⟩ | refine ⟨⟨rfl, clr_of rfl⟩, ?_⟩); (conv => whnf))
          | (refine Fn.use (implIn kind 1 17) ?_; (conv => whnf); (first | refine ⟨trivial, ?_⟩ | refine ⟨⟨rfl, clr_of rfl⟩, ?_⟩); (conv => whnf))
          | (refine chkP_of ?hchk ?_; (case hchk => simp; done); (conv => whnf))
          | (refine ifP_of (fun _ => ?_) (fun _ => ?_) <;> (conv => whnf)))
        all_goals clear ih hg
        all_goals first | exact ⟨bl (hno1 (by rw [← hP]; clear hno1 hP hr; simp_all)), rfl⟩ | exact ⟨rfl, by rw [← hP]; clear hno1 hP hr; simp_all⟩
      · have hpv : prevOk ops (j + 1) ⟨num, kind, ref, rep, oneof, tag, quick, run, inl⟩ = !decide (ops[j].num ≥ num) := by
          show (match ops[j]? with | some p => !decide (p.num ≥ num) | none => true) = _
          rw [List.getElem?_eq_getElem (by omega)]
        rw [hpv] at hP
        have hw1 : IntKind.i64.wrap (((j + 1 : Nat) : Int) - 1) = (j : Int) := by rw [wrap64 (by omega) (by omega)]; omega
        have hg2 : (Opr.css ops)[(IntKind.i64.wrap (((j + 1 : Nat) : Int) - 1)).toNat]? = some (ops[j]'(by omega)).cells := by rw [hw1]; exact Opr.css_get (by omega)
        have hz : decide (0 ≤ IntKind.i64.wrap (((j + 1 : Nat) : Int) - 1)) = true := by rw [hw1]; simp
        generalize hpj : ops[j] = pj at *
        repeat' (first
          | (refine Fn.use (implNum num) ?_; (conv => whnf); (first | refine ⟨trivial, ?_⟩ | refine ⟨⟨rfl, clr_of rfl⟩, ?_⟩); (conv => whnf))
          | (refine Fn.use (implIn kind 1 17) ?_; (conv => whnf); (first | refine ⟨trivial, ?_⟩ | refine ⟨⟨rfl, clr_of rfl⟩, ?_⟩); (conv => whnf))
          | (refine optP_of (hg2) ?_; (conv => whnf))
          | (refine chkP_of (hz) ?_; (conv => whnf))
          | (refine chkP_of ?hchk ?_; (case hchk => simp; done); (conv => whnf))
          | (refine ifP_of (fun _ => ?_) (fun _ => ?_) <;> (conv => whnf)))
        all_goals clear ih hg
        all_goals first | exact ⟨bl (hno1 (by rw [← hP]; clear hno1 hP hr hg2; simp_all)), rfl⟩ | exact ⟨rfl, by rw [← hP]; clear hno1 hP hr hg2; simp_all⟩
    rintro t ⟨rfl, rfl⟩
    rw [Bool.true_and] at hsh2
    clear hno1
    have hwm : IntKind.i64.wrap ((mods.length : Int) - 1) = (mods.length : Int) - 1 := wrap64 (by omega) (by omega)
    conv => whnf
    have HR : Fn Tryz.prog [] 61 [.sc (.int .i64 ref), .sc (.int .i64 0), .sc (.int .i64 (IntKind.i64.wrap (((Modu.css mods).length : Int) - 1)))] [] (ret [.sc (.bool (inB ref 0 ((mods.length : Int) - 1)))] []) := by rw [hlm, hwm]; exact implIn _ _ _
    refine regP_by (fun t => t = ⟨[(1, .sh 9 (Opr.css ops)), (2, .ptr 0 [] 0 0), (5, .sc (.int .i64 mo)), (7, .ptr 1 [] 0 0), (9, .sh 9 (Opr.css ops)), (10, .sc (.int .i64 ops.length)), (11, .sc (.int .i64 j))], [(0, some ⟨[[.sh 3 (Modu.css mods)]], true, 1, true⟩), (1, some ⟨[[.sc (.int .i64 num), .sc (.int .i64 kind), .sc (.int .i64 ref), .sc (.bool rep), .sc (.int .i64 oneof), .sh 1 (byteC tag), .sc (.bool quick), .sc (.int .i64 run), .sh 9 (Opr.css inl)]], true, 9, true⟩)], 2, 102, 0⟩ ∧ sh = true) ?_ ?_
    · clear hout hmax ih hg hr
      by_cases hk : kind = 16
      · rw [if_pos hk] at hsh2
        subst hk
        rw [← hsh2] at HR
        clear hsh2
        repeat' (first
          | (refine Fn.use (HR) ?_; (conv => whnf); (first | refine ⟨trivial, ?_⟩ | refine ⟨⟨rfl, clr_of rfl⟩, ?_⟩); (conv => whnf))
          | (refine chkP_of ?hchk ?_; (case hchk => simp; done); (conv => whnf))
          | (refine ifP_of (fun _ => ?_) (fun _ => ?_) <;> (conv => whnf)))
        all_goals first | exact ⟨bl (hno (by clear hno HR; simp_all)), rfl⟩ | exact ⟨rfl, by clear hno HR; simp_all⟩
      · rw [if_neg hk] at hsh2
        have hk' : (kind == 16) = false := by simpa using hk
        have hsh3 : sh = (ref == 0) := by rw [hsh2]; unfold inB; rw [Bool.eq_iff_iff]; simp; omega
        clear hsh2
        repeat' (first
          | (refine Fn.use (HR) ?_; (conv => whnf); (first | refine ⟨trivial, ?_⟩ | refine ⟨⟨rfl, clr_of rfl⟩, ?_⟩); (conv => whnf))
          | (refine chkP_of ?hchk ?_; (case hchk => simp; done); (conv => whnf))
          | (refine ifP_of (fun _ => ?_) (fun _ => ?_) <;> (conv => whnf)))
        all_goals clear HR
        all_goals first | exact ⟨bl (hno (by rw [hsh3]; clear hno hsh3; simp_all)), rfl⟩ | exact ⟨rfl, by rw [hsh3]; clear hno hsh3; simp_all⟩ | skip
        all_goals (rename_i q _ _ _; exact absurd q (by clear hno hsh3; simp_all))
    rintro t ⟨rfl, rfl⟩
    clear hno hsh2 hP
    rw [Bool.true_and] at hout
    conv => whnf
    have h5 := ih (j + 1, max mo oneof) ⟨by dsimp only; omega, hout, hmax⟩ (by dsimp only; omega)
    dsimp only at h5
    rw [← hw] at h5
    exact h5
  have h1 : j = ops.length := by have := of_decide_eq_false h1; dsimp only at this; omega
  subst h1
  rw [Nat.sub_self, allFrom] at hout
  rw [List.drop_eq_nil_of_le (Nat.le_refl _), List.foldl_nil] at hmax
  subst hmax
  rw [← hout, Bool.true_and] at hr
  clear hout ih
  generalize mostO ops = M at *
  have hB : ∀ b, (decide ((ops.length : Int) > 40) || decide (M > ops.length)) = b → (!b && pb (oneofsOk ops M)) = R := fun b hb => by rw [hr, hb]
  clear hr
  conv => whnf
  rw [hlo]
  repeat' (first
    | (refine chkP_of ?hchk ?_; (case hchk => simp; done); (conv => whnf))
    | (refine ifP_of (fun _ => ?_) (fun _ => ?_) <;> (conv => whnf)))
  · exact ⟨bl (hB true (by clear hB; simp_all)), rfl⟩
  · exact ⟨bl (hB true (by clear hB; simp_all)), rfl⟩
  rename_i q1 q2
  have hMl : M ≤ ops.length := by rw [hlo] at q2; have q2 : decide (M > (ops.length : Int)) = false := q2; have := of_decide_eq_false q2; omega
  have hR := hB false (by clear hB; simp_all)
  clear hB
  rw [Bool.not_false, Bool.true_and] at hR
  refine loop_of (A := Nat) (fun k => ⟨[(1, .sh 9 (Opr.css ops)), (5, .sc (.int .i64 M)), (8, .ptr 0 [] 0 0)], [(0, some ⟨[[.sc (.int .i64 k)]], true, 1, true⟩)], 1, 102, 0⟩) (fun k => (M + 1 - k).toNat) (fun k => 1 ≤ k ∧ k ≤ M + 1 ∧ ∀ n : Int, 1 ≤ n → n < k → metO ops n) 1 rfl ⟨Nat.le_refl _, by omega, fun n h1 h2 => by omega⟩ ?_
  intro k ⟨hk1, hk2, hall⟩ Y ih2
  conv => whnf
  refine ifP_of (fun h3 => ?_) (fun h3 => ?_)
  · have h3 : (k : Int) ≤ M := of_decide_eq_true h3
    have hw : IntKind.i64.wrap ((k : Int) + 1) = ((k + 1 : Nat) : Int) := by rw [wrap64 (by omega) (by omega)]; omega
    have HC := containsBy119 ops k hb
    rw [met_first] at HC
    generalize hc : pb (metO ops k) = c at *
    conv => whnf
    refine Fn.use (HC) ?_
    conv => whnf
    first | refine ⟨trivial, ?_⟩ | refine ⟨⟨rfl, clr_of rfl⟩, ?_⟩
    conv => whnf
    refine ifP_of (fun h4 => ?_) (fun h4 => ?_)
    · have h4 : c = false := by simpa using h4
      subst h4
      conv => whnf
      exact ⟨bl (by rw [← hR, pb_no (fun hh => of_pb_no hc (hh k (by omega) h3))]), rfl⟩
    · have h4 : c = true := by simpa using h4
      subst h4
      conv => whnf
      have h5 := ih2 (k + 1) ⟨by omega, by omega, fun n h1 h2 => by
        by_cases e : n = k
        · rw [e]; exact of_pb hc
        · exact hall n h1 (by omega)⟩ (by omega)
      rw [← hw] at h5
      exact h5
  have h3 : ¬ (k : Int) ≤ M := of_decide_eq_false h3
  conv => whnf
  exact ⟨bl (by rw [← hR]; exact (pb_yes (fun n h1 h2 => hall n h1 (by omega))).symm), rfl⟩
end Ev
open Go Ev
open Go.Proofs
set_option maxRecDepth 100000
set_option maxHeartbeats 4000000
set_option linter.unusedVariables false
namespace Ev
def firstM (p : Modu → Bool) : List Modu → Nat → Int
  | [], _ => -1
  | a :: l, i => if p a = true then (i : Int) else firstM p l (i + 1)
theorem firstM_any (p : Modu → Bool) : ∀ (l : List Modu) (i : Nat), decide (firstM p l i ≥ 0) = l.any p
  | [], i => rfl
  | a :: l, i => by
    unfold firstM
    rw [List.any_cons]
    by_cases h : p a = true
    · rw [if_pos h, h, Bool.true_or]; simp
    · rw [if_neg h, firstM_any p l (i + 1)]; simp at h; rw [h, Bool.false_or]
theorem closure57 (mods : List Modu) (m : Modu) (hl : mods.length ≤ 1048576) (hm : SmallM m) : Fn Tryz.prog [] 63 [.agg m.acells, .shp [.sl 3 (Modu.css mods)]] [] (ret [.sc (.bool (!opsI mods m.ops))] []) := by
  have H := implOps mods m.ops hm.ops hl
  obtain ⟨ops, jumps, cached⟩ := m
  dsimp only at *
  generalize opsI mods ops = b at *
  refine fn_of Tryz.func63 (by kernel_rfl) ?_
  conv => whnf
  refine Fn.use (H) ?_
  conv => whnf
  first | refine ⟨trivial, ?_⟩ | refine ⟨⟨rfl, clr_of rfl⟩, ?_⟩
  conv => whnf
  exact ⟨rfl, rfl⟩
theorem indexBy57 (mods : List Modu) (xs : List Modu) (hl : mods.length ≤ 1048576) (hx : xs.length ≤ 1048576) (hm : ∀ m ∈ xs, SmallM m) : Fn Tryz.prog [] 100 [.sh 3 (Modu.css xs), .fn 63 [.shp [.sl 3 (Modu.css mods)]]] [] (ret [.sc (.int .i64 (firstM (fun m => !opsI mods m.ops) xs 0))] []) := by
  have hlx := Modu.css_len xs
  refine fn_of Tryz.func100 (by kernel_rfl) ?_
  conv => whnf
  rw [hlx]
  refine loop_of (A := Nat) (fun i => ⟨[(0, .sh 3 (Modu.css xs)), (1, .fn 63 [.shp [.sl 3 (Modu.css mods)]]), (7, .sc (.int .i64 xs.length)), (8, .sc (.int .i64 i))], [], 0, 19, 0⟩) (fun i => xs.length - i) (fun i => i ≤ xs.length ∧ firstM (fun m => !opsI mods m.ops) (xs.drop i) i = firstM (fun m => !opsI mods m.ops) xs 0) 0 rfl ⟨Nat.zero_le _, rfl⟩ ?_
  intro i ⟨hi, hout⟩ X ih
  conv => whnf
  refine ifP_of (fun h2 => ?_) (fun h2 => ?_)
  · have hi1 : i < xs.length := by have := of_decide_eq_true h2; omega
    rw [List.drop_eq_getElem_cons hi1, firstM] at hout
    have HC := closure57 mods xs[i] hl (hm _ (List.getElem_mem hi1))
    generalize (!opsI mods xs[i].ops) = c at *
    conv => whnf
    refine optP_of (Modu.css_get hi1) ?_
    conv => whnf
    refine Fn.use (HC) ?_
    conv => whnf
    first | refine ⟨trivial, ?_⟩ | refine ⟨⟨rfl, clr_of rfl⟩, ?_⟩
    conv => whnf
    refine ifP_of (fun h3 => ?_) (fun h3 => ?_)
    · have h3 : c = true := h3
      subst h3
      conv => whnf
      exact ⟨il (by rw [← hout]; rfl), rfl⟩
    · have h3 : c = false := h3
      subst h3
      conv => whnf
      have hw : IntKind.i64.wrap ((i : Int) + 1) = ((i + 1 : Nat) : Int) := by rw [wrap64 (by omega) (by omega)]; omega
      have h5 := ih (i+1) ⟨by omega, hout⟩ (by omega)
      rw [← hw] at h5
      exact h5
  · have hi1 : ¬ i < xs.length := by have := of_decide_eq_false h2; omega
    conv => whnf
    rw [List.drop_eq_nil_of_le (by omega)] at hout
    exact ⟨il (by rw [← hout]; rfl), rfl⟩
theorem containsBy57 (mods : List Modu) (xs : List Modu) (hl : mods.length ≤ 1048576) (hx : xs.length ≤ 1048576) (hm : ∀ m ∈ xs, SmallM m) : Fn Tryz.prog [] 62 [.sh 3 (Modu.css xs), .fn 63 [.shp [.sl 3 (Modu.css mods)]]] [] (ret [.sc (.bool (xs.any fun m => !opsI mods m.ops))] []) := by
  have HI := indexBy57 mods xs hl hx hm
  refine fn_of Tryz.func62 (by kernel_rfl) ?_
  conv => whnf
  refine Fn.use (HI) ?_
  conv => whnf
  first | refine ⟨trivial, ?_⟩ | refine ⟨⟨rfl, clr_of rfl⟩, ?_⟩
  conv => whnf
  exact ⟨bl (firstM_any _ xs 0), rfl⟩
def lastOk (mods : List Modu) (ops : List Opr) : Prop := True
noncomputable def markAt (mods : List Modu) (ops : List Opr) (j : Nat) : Bool := match ops[j]? with
  | some o => marksB mods o && runOk ops j o
  | none => true
noncomputable def modI (mods : List Modu) (m : Modu) : Bool := !(decide ((m.jumps.length : Int) > 0) && !eqb m.jumps (jumpsI m.ops)) && allFrom (markAt mods m.ops) 0 m.ops.length
noncomputable def modIAt (mods : List Modu) (k : Nat) : Bool := match mods[k]? with
  | some m => modI mods m
  | none => true
noncomputable def irI (mods : List Modu) : Bool := inB mods.length 1 30 && (!(mods.any fun m => !opsI mods m.ops) && allFrom (modIAt mods) 0 mods.length)
end Ev
open Go Ev
open Go.Proofs
set_option maxRecDepth 100000
set_option maxHeartbeats 4000000
set_option linter.unusedVariables false
namespace Ev
theorem opsI_shape {mods : List Modu} {ops : List Opr} (h : opsI mods ops = true) {j : Nat} (hj : j < ops.length) : shapeI mods ops j ops[j] = true := by
  unfold opsI at h
  rw [Bool.and_eq_true, allFrom_iff] at h
  have := h.1 j (Nat.zero_le _) (by omega)
  unfold shapeAt at this
  rw [List.getElem?_eq_getElem hj] at this
  exact this
theorem opsI_ref {mods : List Modu} {ops : List Opr} (h : opsI mods ops = true) {j : Nat} (hj : j < ops.length) (hk : ops[j].kind = 16) : ∃ r : Nat, ops[j].ref = r ∧ r < mods.length := by
  have := opsI_shape h hj
  unfold shapeI refsOf at this
  rw [if_pos hk] at this
  simp only [Bool.and_eq_true] at this
  have := inB_iff.1 this.2.2.2.1
  exact ⟨(ops[j].ref).toNat, by omega, by omega⟩
theorem opsI_last {mods : List Modu} {ops : List Opr} (h : opsI mods ops = true) : -1 ≤ lastN ops := by
  unfold lastN
  by_cases hn : ops.length = 0
  · rw [List.getElem?_eq_none (by omega)]; decide
  · rw [List.getElem?_eq_getElem (by omega)]
    have := opsI_shape h (show ops.length - 1 < ops.length by omega)
    unfold shapeI numB at this
    simp only [Bool.and_eq_true] at this
    have := (inB_iff.1 this.1.1).1
    dsimp only
    omega
theorem implIrOk (mods : List Modu) (hs : Small mods) : Fn Tryz.prog [] 34 [.agg [.sh 3 (Modu.css mods)]] [] (ret [.sc (.bool (irI mods))] []) := by
  have hl := Modu.css_len mods
  have hlen := hs.len
  have hr : irI mods = (inB mods.length 1 30 && (!(mods.any fun m => !opsI mods m.ops) && allFrom (modIAt mods) 0 mods.length)) := rfl
  generalize irI mods = R at *
  have H1 : Fn Tryz.prog [] 61 [.sc (.int .i64 (Modu.css mods).length), .sc (.int .i64 1), .sc (.int .i64 30)] [] (ret [.sc (.bool (inB mods.length 1 30))] []) := by rw [hl]; exact implIn _ _ _
  have H2 := containsBy57 mods mods hlen hlen hs.all
  generalize inB mods.length 1 30 = c1 at *
  generalize hc2 : (mods.any fun m => !opsI mods m.ops) = c2 at *
  refine fn_of Tryz.func34 (by kernel_rfl) ?_
  conv => whnf
  repeat' (first
    | (refine Fn.use (H1) ?_; (conv => whnf); (first | refine ⟨trivial, ?_⟩ | refine ⟨⟨rfl, clr_of rfl⟩, ?_⟩); (conv => whnf))
    | (refine Fn.use (H2) ?_; (conv => whnf); (first | refine ⟨trivial, ?_⟩ | refine ⟨⟨rfl, clr_of rfl⟩, ?_⟩); (conv => whnf))
    | (refine chkP_of ?hchk ?_; (case hchk => simp; done); (conv => whnf))
    | (refine ifP_of (fun _ => ?_) (fun _ => ?_) <;> (conv => whnf)))
  · exact ⟨bl (by rw [hr]; clear H1 H2; simp_all), rfl⟩
  · exact ⟨bl (by rw [hr]; clear H1 H2; simp_all), rfl⟩
  rename_i q1 q2
  have q2 : c2 = false := q2
  subst q2
  have q1 : c1 = true := by simpa using q1
  subst q1
  rw [Bool.true_and, Bool.not_false, Bool.true_and] at hr
  have hops : ∀ m ∈ mods, opsI mods m.ops = true := fun m hm => by
    have := List.any_eq_false.1 hc2 m hm
    simpa using this
  clear H1 H2 hc2
  rw [hl]
  refine loop_of (A := Nat) (fun k => ⟨[(1, .ptr 0 [] 0 0), (18, .sh 3 (Modu.css mods)), (19, .sc (.int .i64 mods.length)), (20, .sc (.int .i64 k))], [(0, some ⟨[[.sh 3 (Modu.css mods)]], true, 1, true⟩)], 1, 50, 0⟩) (fun k => mods.length - k) (fun k => k ≤ mods.length ∧ allFrom (modIAt mods) k (mods.length - k) = R) 0 rfl ⟨Nat.zero_le _, hr.symm⟩ ?_
  clear hr
  intro k ⟨hk, hout⟩ X ih
  conv => whnf
  refine ifP_of (fun h2 => ?_) (fun h2 => ?_)
  · have h2 : k < mods.length := by have := of_decide_eq_true h2; omega
    have hw : IntKind.i64.wrap ((k : Int) + 1) = ((k + 1 : Nat) : Int) := by rw [wrap64 (by omega) (by omega)]; omega
    rw [show mods.length - k = (mods.length - (k + 1)) + 1 by omega, allFrom, modIAt, List.getElem?_eq_getElem h2] at hout
    dsimp only at hout
    have hsm := hs.all _ (List.getElem_mem h2)
    have hok := hops _ (List.getElem_mem h2)
    have hg := Modu.css_get h2
    generalize mods[k] = m at *
    obtain ⟨ops, jumps, cached⟩ := m
    obtain ⟨s1, s2, s3⟩ := hsm
    dsimp only at s1 s2 s3 hok
    have hms : modI mods ⟨ops, jumps, cached⟩ = (!(decide ((jumps.length : Int) > 0) && !eqb jumps (jumpsI ops)) && allFrom (markAt mods ops) 0 ops.length) := rfl
    generalize modI mods ⟨ops, jumps, cached⟩ = ms at *
    have hlo := Opr.css_len ops
    have hlj := intC_len jumps
    have H2 := implJumps ⟨ops, jumps, cached⟩ s1 (opsI_last hok)
    have H3 := equalInt_ok jumps (jumpsI ops) s2
    dsimp only at H2
    generalize eqb jumps (jumpsI ops) = eb at *
    rw [← hlj] at hms
    generalize hje : (decide (((intC jumps).length : Int) > 0) && !eb) = je at *
    conv => whnf
    refine optP_of (hg) ?_
    conv => whnf
    refine regP_by (fun t => t = ⟨[(1, .ptr 0 [] 0 0), (4, .ptr 1 [] 0 0), (18, .sh 3 (Modu.css mods)), (19, .sc (.int .i64 mods.length)), (20, .sc (.int .i64 k))], [(0, some ⟨[[.sh 3 (Modu.css mods)]], true, 1, true⟩), (1, some ⟨[[.sh 9 (Opr.css ops), .sh 1 (intC jumps), .sc (.bool cached)]], true, 3, true⟩)], 2, 50, 0⟩ ∧ je = false) ?_ ?_
    · repeat' (first
        | (refine Fn.use (H2) ?_; (conv => whnf); (first | refine ⟨trivial, ?_⟩ | refine ⟨⟨rfl, clr_of rfl⟩, ?_⟩); (conv => whnf))
        | (refine Fn.use (H3) ?_; (conv => whnf); (first | refine ⟨trivial, ?_⟩ | refine ⟨⟨rfl, clr_of rfl⟩, ?_⟩); (conv => whnf))
        | (refine chkP_of ?hchk ?_; (case hchk => simp; done); (conv => whnf))
        | (refine ifP_of (fun _ => ?_) (fun _ => ?_) <;> (conv => whnf)))
      all_goals clear ih H2 H3
      all_goals first | exact ⟨bl (by rw [← hout, hms, ← hje]; clear hout hms hje; simp_all), rfl⟩ | exact ⟨rfl, by rw [← hje]; clear hout hms hje; simp_all⟩
    rintro t ⟨rfl, rfl⟩
    rw [Bool.not_false, Bool.true_and] at hms
    clear H2 H3 hje
    conv => whnf
    rw [hlo]
    refine loop_of (A := Nat) (fun i => ⟨[(1, .ptr 0 [] 0 0), (4, .ptr 1 [] 0 0), (18, .sh 3 (Modu.css mods)), (19, .sc (.int .i64 mods.length)), (20, .sc (.int .i64 k)), (38, .sc (.int .i64 ops.length)), (39, .sc (.int .i64 i))], [(0, some ⟨[[.sh 3 (Modu.css mods)]], true, 1, true⟩), (1, some ⟨[[.sh 9 (Opr.css ops), .sh 1 (intC jumps), .sc (.bool cached)]], true, 3, true⟩)], 2, 50, 0⟩) (fun i => ops.length - i) (fun i => i ≤ ops.length ∧ allFrom (markAt mods ops) i (ops.length - i) = ms) 0 rfl ⟨Nat.zero_le _, hms.symm⟩ ?_
    clear hms
    intro i ⟨hi, hout2⟩ Y ih2
    conv => whnf
    refine ifP_of (fun h3 => ?_) (fun h3 => ?_)
    · have h3 : i < ops.length := by have := of_decide_eq_true h3; omega
      have hw3 : IntKind.i64.wrap ((i : Int) + 1) = ((i + 1 : Nat) : Int) := by rw [wrap64 (by omega) (by omega)]; omega
      rw [show ops.length - i = (ops.length - (i + 1)) + 1 by omega, allFrom, markAt, List.getElem?_eq_getElem h3] at hout2
      dsimp only at hout2
      have HM := implMarks mods ops i h3 s1 hlen (s3 _ (List.getElem_mem h3)) (opsI_ref hok h3)
      generalize (marksB mods ops[i] && runOk ops i ops[i]) = b at *
      conv => whnf
      refine Fn.use (HM) ?_
      conv => whnf
      first | refine ⟨trivial, ?_⟩ | refine ⟨⟨rfl, clr_of rfl⟩, ?_⟩
      conv => whnf
      refine ifP_of (fun h4 => ?_) (fun h4 => ?_)
      · have h4 : b = false := by simpa using h4
        subst h4
        conv => whnf
        exact ⟨bl (by rw [← hout, ← hout2]; rfl), rfl⟩
      · have h4 : b = true := by simpa using h4
        subst h4
        conv => whnf
        have h5 := ih2 (i + 1) ⟨by omega, hout2⟩ (by omega)
        rw [← hw3] at h5
        exact h5
    have h3 : i = ops.length := by have := of_decide_eq_false h3; omega
    subst h3
    rw [Nat.sub_self, allFrom] at hout2
    rw [← hout2, Bool.true_and] at hout
    conv => whnf
    have h5 := ih (k + 1) ⟨by omega, hout⟩ (by omega)
    rw [← hw] at h5
    exact h5
  have h2 : k = mods.length := by have := of_decide_eq_false h2; omega
  subst h2
  rw [Nat.sub_self, allFrom] at hout
  conv => whnf
  exact ⟨bl hout, rfl⟩
end Ev
open Go Ev
open Go.Proofs
set_option maxRecDepth 100000
set_option maxHeartbeats 4000000
set_option linter.unusedVariables false
namespace Ev
theorem allAt_iff {α : Type} {q : Nat → α → Bool} {l : List α} {p : Nat → Bool} (hp : ∀ j, p j = (match l[j]? with | some o => q j o | none => true)) : allFrom p 0 l.length = true ↔ ∀ j (h : j < l.length), q j l[j] = true := by
  rw [allFrom_iff]
  constructor
  · intro h j hj
    have := h j (Nat.zero_le _) (by omega)
    rw [hp, List.getElem?_eq_getElem hj] at this
    exact this
  · intro h j _ hj
    rw [hp, List.getElem?_eq_getElem (by omega)]
    exact h j (by omega)
theorem shape_iff {mods : List Modu} {ops : List Opr} {j : Nat} {o : Opr} : shapeOk mods ops j o = true ↔ shapeI mods ops j o = true ∧ o.oneof ≤ 40 := by
  unfold shapeOk shapeI
  simp only [Bool.and_eq_true, inB_iff, Bool.not_eq_true', decide_eq_false_iff_not]
  constructor
  · rintro ⟨h1, h2, h3, h4, h5, h6⟩; exact ⟨⟨h1, h2, h3, h4, by omega, h6⟩, by omega⟩
  · rintro ⟨⟨h1, h2, h3, h4, h5, h6⟩, h7⟩; exact ⟨h1, h2, h3, h4, by omega, h6⟩
theorem sorted_of {mods : List Modu} : ∀ {ops : List Opr} {pre : List Opr}, (∀ j (h : j < (pre ++ ops).length), shapeI mods (pre ++ ops) j (pre ++ ops)[j] = true) → sortedO ops = true
  | [], pre, h => rfl
  | a :: l, pre, h => by
    have h2 : sortedO l = true := sorted_of (ops := l) (pre := pre ++ [a]) (by rw [List.append_assoc]; exact h)
    unfold sortedO
    rw [h2, Bool.and_true]
    cases l with
    | nil => rfl
    | cons b l =>
      have h1 := h (pre.length + 1) (by simp)
      unfold shapeI at h1
      simp only [Bool.and_eq_true] at h1
      have h1 := h1.2.1
      unfold prevOk at h1
      dsimp only at h1
      rw [List.getElem?_append_right (Nat.le_refl _), Nat.sub_self] at h1
      have hb : (pre ++ a :: b :: l)[pre.length + 1]'(by simp) = b := by rw [List.getElem_append_right (by omega)]; simp
      rw [hb] at h1
      simp at h1 ⊢
      omega
theorem jumps_eq {mods : List Modu} {ops : List Opr} (h : ∀ j (h : j < ops.length), shapeI mods ops j ops[j] = true) : jumpsS ops = jumpsI ops := by
  have hs : sortedO ops = true := sorted_of (pre := []) h
  unfold jumpsS jumpsI jumpsBy
  split
  · rfl
  · refine List.map_congr_left (fun k _ => ?_)
    exact first_last hs rfl
theorem ir_iff (mods : List Modu) : irS mods = irI mods := by
  have key : ∀ m : Modu, (m.ops.length ≤ 40 ∧ modS mods m = true) ↔ (opsI mods m.ops = true ∧ modI mods m = true) := by
    intro ⟨ops, jumps, cached⟩
    unfold modS modI opsI
    dsimp only
    simp only [Bool.and_eq_true]
    rw [allAt_iff (l := ops) (q := fun j o => opOkB mods ops j o) (p := opAtB mods ops) (fun j => by unfold opAtB; cases ops[j]? <;> rfl), allAt_iff (l := ops) (q := fun j o => shapeI mods ops j o) (p := shapeAt mods ops) (fun j => by unfold shapeAt; cases ops[j]? <;> rfl), allAt_iff (l := ops) (q := fun j o => marksB mods o && runOk ops j o) (p := markAt mods ops) (fun j => by unfold markAt; cases ops[j]? <;> rfl)]
    have hop : ∀ j (h : j < ops.length), opOkB mods ops j ops[j] = true ↔ ((shapeI mods ops j ops[j] = true ∧ ops[j].oneof ≤ 40) ∧ (marksB mods ops[j] && runOk ops j ops[j]) = true) := fun j h => by
      unfold opOkB
      rw [Bool.and_eq_true, shape_iff]
    constructor
    · rintro ⟨h1, h2, h3, h4⟩
      have hsh : ∀ j (h : j < ops.length), shapeI mods ops j ops[j] = true := fun j h => ((hop j h).1 (h2 j h)).1.1
      have hof := of_pb h3
      have hm0 := (mostO_le ops 0).1
      have hmo : ops.foldl upO 0 = mostO ops := rfl
      have hml := met_len (mostO ops).toNat ops (fun k k1 k2 => hof k k1 (by omega))
      refine ⟨⟨hsh, ?_, h3⟩, ?_, fun j h => ((hop j h).1 (h2 j h)).2⟩
      · simp; omega
      · rw [← jumps_eq hsh]; exact h4
    · rintro ⟨⟨h1, h2, h3⟩, h4, h5⟩
      simp at h2
      have hmo : ops.foldl upO 0 = mostO ops := rfl
      refine ⟨by omega, fun j h => (hop j h).2 ⟨⟨h1 j h, ?_⟩, h5 j h⟩, h3, ?_⟩
      · have := (mostO_le ops 0).2 _ (List.getElem_mem h)
        omega
      · rw [jumps_eq h1]; exact h4
  rw [Bool.eq_iff_iff]
  unfold irS irI
  simp only [Bool.and_eq_true]
  rw [allAt_iff (l := mods) (q := fun _ m => !decide ((m.ops.length : Int) > 40)) (p := shortAt mods) (fun j => by unfold shortAt; cases mods[j]? <;> rfl), allAt_iff (l := mods) (q := fun _ m => modS mods m) (p := modAt mods) (fun j => by unfold modAt; cases mods[j]? <;> rfl), allAt_iff (l := mods) (q := fun _ m => modI mods m) (p := modIAt mods) (fun j => by unfold modIAt; cases mods[j]? <;> rfl)]
  refine and_congr Iff.rfl ?_
  constructor
  · rintro ⟨h1, h2⟩
    have hk : ∀ j (h : j < mods.length), opsI mods mods[j].ops = true ∧ modI mods mods[j] = true := fun j h => (key _).1 ⟨by have := h1 j h; simp at this; omega, h2 j h⟩
    refine ⟨?_, fun j h => (hk j h).2⟩
    rw [Bool.not_eq_true', List.any_eq_false]
    intro m hm
    obtain ⟨j, hj, rfl⟩ := List.getElem_of_mem hm
    rw [(hk j hj).1]; simp
  · rintro ⟨h1, h2⟩
    rw [Bool.not_eq_true', List.any_eq_false] at h1
    have hk : ∀ j (h : j < mods.length), mods[j].ops.length ≤ 40 ∧ modS mods mods[j] = true := fun j h => (key _).2 ⟨by have := h1 _ (List.getElem_mem h); simpa using this, h2 j h⟩
    exact ⟨fun j h => by have := (hk j h).1; simp; omega, fun j h => (hk j h).2⟩
end Ev
open Go Ev
open Go.Proofs
set_option maxRecDepth 100000
set_option maxHeartbeats 4000000
set_option linter.unusedVariables false
namespace Ev
theorem smallO_of : ∀ {l : List Opr} {n : Nat}, Opr.ss l ≤ n → n ≤ 1048576 → ∀ o ∈ l, SmallO o
  | [], _, _, _, o, ho => nomatch ho
  | a :: l, n, h, hn, o, ho => by
    rw [Opr.ss] at h
    rcases List.mem_cons.1 ho with rfl | ho
    · obtain ⟨num, kind, ref, rep, oneof, tag, quick, run, inl⟩ := o
      rw [Opr.w] at h
      exact ⟨by show inl.length ≤ _; omega, by show tag.length ≤ _; omega⟩
    · exact smallO_of (l := l) (n := n) (by omega) hn o ho
theorem smallM_of : ∀ {l : List Modu} {n : Nat}, Modu.ss l ≤ n → n ≤ 1048576 → ∀ m ∈ l, SmallM m
  | [], _, _, _, o, ho => nomatch ho
  | a :: l, n, h, hn, o, ho => by
    rw [Modu.ss] at h
    rcases List.mem_cons.1 ho with rfl | ho
    · obtain ⟨ops, jumps, cached⟩ := o
      rw [Modu.w] at h
      unfold Opr.ws at h
      exact ⟨by show ops.length ≤ _; omega, by show jumps.length ≤ _; omega, smallO_of (l := ops) (n := n) (by omega) hn⟩
    · exact smallM_of (l := l) (n := n) (by omega) hn o ho
theorem small_of {a : Ir} (h : a.w ≤ 1048576) : Small a.mods := by
  obtain ⟨mods⟩ := a
  have h : Modu.ws mods ≤ 1048576 := h
  unfold Modu.ws at h
  exact ⟨by show mods.length ≤ _; omega, smallM_of (l := mods) (n := 1048576) (by omega) (Nat.le_refl _)⟩
end Ev
