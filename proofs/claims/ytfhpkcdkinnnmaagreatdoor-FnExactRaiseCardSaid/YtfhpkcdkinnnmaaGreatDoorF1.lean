/- Contracts of functions of the given program, shown on the evaluator; each states its own conditions. -/
import Derived.Test.YtfhpkcdkinnnmaaGreatDoorS
import Derived.Test.YtfhpkcdkinnnmaaGreatDoorE4
open Go Ev
open Go.Proofs
set_option maxRecDepth 100000
set_option maxHeartbeats 4000000
set_option linter.unusedVariables false
namespace Ev
def strC (l : List ByteArray) : List (List V) := l.map fun b => [.sc (.string b)]
def intC (l : List Int) : List (List V) := l.map fun n => [.sc (.int .i64 n)]
def byteC (l : List Int) : List (List V) := l.map fun n => [.sc (.int .u8 n)]
theorem byteC_len (l : List Int) : (byteC l).length = l.length := List.length_map ..
theorem byteC_get {xs : List Int} {i : Nat} (h : i < xs.length) : (byteC xs)[i]? = some [.sc (.int .u8 xs[i])] := get_map h
def strS : List ByteArray → Nat
  | [] => 0
  | b :: l => b.size + strS l
def strW (l : List ByteArray) : Nat := l.length + strS l
def strO (l : List ByteArray) : Prop := l.length ≤ 9223372036854775807 ∧ ∀ b ∈ l, b.size ≤ 9223372036854775807
theorem strS_drop {l : List ByteArray} {i : Nat} (h : i < l.length) : strS (l.drop i) = l[i].size + strS (l.drop (i + 1)) := by rw [List.drop_eq_getElem_cons h, strS]
theorem strC_len (l : List ByteArray) : (strC l).length = l.length := List.length_map ..
theorem strC_get {xs : List ByteArray} {i : Nat} (h : i < xs.length) : (strC xs)[i]? = some [.sc (.string xs[i])] := get_map h
theorem intC_len (l : List Int) : (intC l).length = l.length := List.length_map ..
theorem intC_get {xs : List Int} {i : Nat} (h : i < xs.length) : (intC xs)[i]? = some [.sc (.int .i64 xs[i])] := get_map h
structure Opr where
  num : Int
  kind : Int
  ref : Int
  rep : Bool
  oneof : Int
  tag : List Int
  quick : Bool
  run : Int
  inl : List Opr
mutual
def Opr.cs : Opr → List V
  | ⟨num, kind, ref, rep, oneof, tag, quick, run, inl⟩ => [.sc (.int .i64 num), .sc (.int .i64 kind), .sc (.int .i64 ref), .sc (.bool rep), .sc (.int .i64 oneof), .sl 1 (byteC tag), .sc (.bool quick), .sc (.int .i64 run), .sl 9 (Opr.css inl)]
def Opr.css : List Opr → List (List V)
  | [] => []
  | a :: l => a.cs :: Opr.css l
end
mutual
def Opr.w : Opr → Nat
  | ⟨num, kind, ref, rep, oneof, tag, quick, run, inl⟩ => tag.length + (inl.length + Opr.ss inl)
def Opr.ss : List Opr → Nat
  | [] => 0
  | a :: l => a.w + Opr.ss l
end
def Opr.ws (l : List Opr) : Nat := l.length + Opr.ss l
mutual
def Opr.ok : Opr → Prop
  | ⟨num, kind, ref, rep, oneof, tag, quick, run, inl⟩ => tag.length ≤ 9223372036854775807 ∧ (inl.length ≤ 9223372036854775807 ∧ Opr.okl inl)
def Opr.okl : List Opr → Prop
  | [] => True
  | a :: l => a.ok ∧ Opr.okl l
end
def Opr.oks (l : List Opr) : Prop := l.length ≤ 9223372036854775807 ∧ Opr.okl l
def Opr.cells (a : Opr) : List V := [.sc (.int .i64 a.num), .sc (.int .i64 a.kind), .sc (.int .i64 a.ref), .sc (.bool a.rep), .sc (.int .i64 a.oneof), .sl 1 (byteC a.tag), .sc (.bool a.quick), .sc (.int .i64 a.run), .sl 9 (Opr.css a.inl)]
def Opr.acells (a : Opr) : List V := [.sc (.int .i64 a.num), .sc (.int .i64 a.kind), .sc (.int .i64 a.ref), .sc (.bool a.rep), .sc (.int .i64 a.oneof), .sh 1 (byteC a.tag), .sc (.bool a.quick), .sc (.int .i64 a.run), .sh 9 (Opr.css a.inl)]
def Opr.ocells (a : Opr) : List V := [.sc (.int .i64 a.num), .sc (.int .i64 a.kind), .sc (.int .i64 a.ref), .sc (.bool a.rep), .sc (.int .i64 a.oneof), .own true 1 (byteC a.tag), .sc (.bool a.quick), .sc (.int .i64 a.run), .own true 9 (Opr.css a.inl)]
theorem Opr.cs_eq (a : Opr) : a.cs = a.cells := by cases a; rfl
theorem Opr.css_len : ∀ l : List Opr, (Opr.css l).length = l.length
  | [] => rfl
  | a :: l => by rw [Opr.css, List.length_cons, List.length_cons, Opr.css_len l]
theorem Opr.css_get : ∀ {l : List Opr} {i : Nat} (h : i < l.length), (Opr.css l)[i]? = some (Opr.cells l[i])
  | a :: l, 0, h => by rw [Opr.css, List.getElem?_cons_zero, Opr.cs_eq]; rfl
  | a :: l, i + 1, h => by rw [Opr.css, List.getElem?_cons_succ]; exact Opr.css_get (by simpa using h)
theorem Opr.okl_mem : ∀ {l : List Opr}, Opr.okl l → ∀ a ∈ l, a.ok
  | [], _ => fun b hb => nomatch hb
  | a :: l, h => fun b hb => by
    rw [Opr.okl] at h
    rcases List.mem_cons.1 hb with rfl | hb
    · exact h.1
    · exact Opr.okl_mem h.2 b hb
theorem Opr.ss_drop {l : List Opr} {i : Nat} (h : i < l.length) : Opr.ss (l.drop i) = l[i].w + Opr.ss (l.drop (i + 1)) := by rw [List.drop_eq_getElem_cons h, Opr.ss]
theorem Opr.ss_mem : ∀ {l : List Opr} {a : Opr}, a ∈ l → a.w ≤ Opr.ss l
  | b :: l, a, h => by
    rw [Opr.ss]
    rcases List.mem_cons.1 h with rfl | h
    · omega
    · have := Opr.ss_mem h; omega
structure Modu where
  ops : List Opr
  jumps : List Int
  cached : Bool
def Modu.cs : Modu → List V
  | ⟨ops, jumps, cached⟩ => [.sl 9 (Opr.css ops), .sl 1 (intC jumps), .sc (.bool cached)]
def Modu.css : List Modu → List (List V)
  | [] => []
  | a :: l => a.cs :: Modu.css l
def Modu.w : Modu → Nat
  | ⟨ops, jumps, cached⟩ => Opr.ws ops + jumps.length
def Modu.ss : List Modu → Nat
  | [] => 0
  | a :: l => a.w + Modu.ss l
def Modu.ws (l : List Modu) : Nat := l.length + Modu.ss l
def Modu.ok : Modu → Prop
  | ⟨ops, jumps, cached⟩ => Opr.oks ops ∧ jumps.length ≤ 9223372036854775807
def Modu.okl : List Modu → Prop
  | [] => True
  | a :: l => a.ok ∧ Modu.okl l
def Modu.oks (l : List Modu) : Prop := l.length ≤ 9223372036854775807 ∧ Modu.okl l
def Modu.cells (a : Modu) : List V := [.sl 9 (Opr.css a.ops), .sl 1 (intC a.jumps), .sc (.bool a.cached)]
def Modu.acells (a : Modu) : List V := [.sh 9 (Opr.css a.ops), .sh 1 (intC a.jumps), .sc (.bool a.cached)]
def Modu.ocells (a : Modu) : List V := [.own true 9 (Opr.css a.ops), .own true 1 (intC a.jumps), .sc (.bool a.cached)]
theorem Modu.cs_eq (a : Modu) : a.cs = a.cells := by cases a; rfl
theorem Modu.css_len : ∀ l : List Modu, (Modu.css l).length = l.length
  | [] => rfl
  | a :: l => by rw [Modu.css, List.length_cons, List.length_cons, Modu.css_len l]
theorem Modu.css_get : ∀ {l : List Modu} {i : Nat} (h : i < l.length), (Modu.css l)[i]? = some (Modu.cells l[i])
  | a :: l, 0, h => by rw [Modu.css, List.getElem?_cons_zero, Modu.cs_eq]; rfl
  | a :: l, i + 1, h => by rw [Modu.css, List.getElem?_cons_succ]; exact Modu.css_get (by simpa using h)
theorem Modu.okl_mem : ∀ {l : List Modu}, Modu.okl l → ∀ a ∈ l, a.ok
  | [], _ => fun b hb => nomatch hb
  | a :: l, h => fun b hb => by
    rw [Modu.okl] at h
    rcases List.mem_cons.1 hb with rfl | hb
    · exact h.1
    · exact Modu.okl_mem h.2 b hb
theorem Modu.ss_drop {l : List Modu} {i : Nat} (h : i < l.length) : Modu.ss (l.drop i) = l[i].w + Modu.ss (l.drop (i + 1)) := by rw [List.drop_eq_getElem_cons h, Modu.ss]
theorem Modu.ss_mem : ∀ {l : List Modu} {a : Modu}, a ∈ l → a.w ≤ Modu.ss l
  | b :: l, a, h => by
    rw [Modu.ss]
    rcases List.mem_cons.1 h with rfl | h
    · omega
    · have := Modu.ss_mem h; omega
structure Ir where
  mods : List Modu
def Ir.cs : Ir → List V
  | ⟨mods⟩ => [.sl 3 (Modu.css mods)]
def Ir.css : List Ir → List (List V)
  | [] => []
  | a :: l => a.cs :: Ir.css l
def Ir.w : Ir → Nat
  | ⟨mods⟩ => Modu.ws mods
def Ir.ss : List Ir → Nat
  | [] => 0
  | a :: l => a.w + Ir.ss l
def Ir.ws (l : List Ir) : Nat := l.length + Ir.ss l
def Ir.ok : Ir → Prop
  | ⟨mods⟩ => Modu.oks mods
def Ir.okl : List Ir → Prop
  | [] => True
  | a :: l => a.ok ∧ Ir.okl l
def Ir.oks (l : List Ir) : Prop := l.length ≤ 9223372036854775807 ∧ Ir.okl l
def Ir.cells (a : Ir) : List V := [.sl 3 (Modu.css a.mods)]
def Ir.acells (a : Ir) : List V := [.sh 3 (Modu.css a.mods)]
def Ir.ocells (a : Ir) : List V := [.own true 3 (Modu.css a.mods)]
theorem Ir.cs_eq (a : Ir) : a.cs = a.cells := by cases a; rfl
theorem Ir.css_len : ∀ l : List Ir, (Ir.css l).length = l.length
  | [] => rfl
  | a :: l => by rw [Ir.css, List.length_cons, List.length_cons, Ir.css_len l]
theorem Ir.css_get : ∀ {l : List Ir} {i : Nat} (h : i < l.length), (Ir.css l)[i]? = some (Ir.cells l[i])
  | a :: l, 0, h => by rw [Ir.css, List.getElem?_cons_zero, Ir.cs_eq]; rfl
  | a :: l, i + 1, h => by rw [Ir.css, List.getElem?_cons_succ]; exact Ir.css_get (by simpa using h)
theorem Ir.okl_mem : ∀ {l : List Ir}, Ir.okl l → ∀ a ∈ l, a.ok
  | [], _ => fun b hb => nomatch hb
  | a :: l, h => fun b hb => by
    rw [Ir.okl] at h
    rcases List.mem_cons.1 hb with rfl | hb
    · exact h.1
    · exact Ir.okl_mem h.2 b hb
theorem Ir.ss_drop {l : List Ir} {i : Nat} (h : i < l.length) : Ir.ss (l.drop i) = l[i].w + Ir.ss (l.drop (i + 1)) := by rw [List.drop_eq_getElem_cons h, Ir.ss]
theorem Ir.ss_mem : ∀ {l : List Ir} {a : Ir}, a ∈ l → a.w ≤ Ir.ss l
  | b :: l, a, h => by
    rw [Ir.ss]
    rcases List.mem_cons.1 h with rfl | h
    · omega
    · have := Ir.ss_mem h; omega
theorem szIntS_ok (xs : List Int) (l : Int) (hb : xs.length ≤ 9223372036854775807) (h0 : 0 ≤ l) (h1 : l ≤ 1048576) : Fn Tryz.prog [] 90 [.sh 1 (intC xs), .sc (.int .i64 l)] [] (ret [.sc (.int .i64 (dec l xs.length))] []) := by
  refine fn_of Tryz.func90 (by kernel_rfl) ?_
  have hlm := intC_len xs
  conv => whnf
  rw [hlm]
  have e : IntKind.i64.wrap (l - ↑xs.length) = l - ↑xs.length := wrap64 (by omega) (by omega)
  rw [e]
  refine ifP_of (fun h => ?_) (fun h => ?_)
  · have h := of_decide_eq_true h
    conv => whnf
    exact ⟨congrArg (fun x : Int => [V.sc (.int .i64 x)]) (show (-1 : Int) = _ from (dec_neg (by omega)).symm), rfl⟩
  · have h := of_decide_eq_false h
    conv => whnf
    exact ⟨congrArg (fun x : Int => [V.sc (.int .i64 x)]) (show l - (xs.length : Int) = _ from (dec_pos (by omega)).symm), rfl⟩
theorem szByteS_ok (xs : List Int) (l : Int) (hb : xs.length ≤ 9223372036854775807) (h0 : 0 ≤ l) (h1 : l ≤ 1048576) : Fn Tryz.prog [] 45 [.sh 1 (byteC xs), .sc (.int .i64 l)] [] (ret [.sc (.int .i64 (dec l xs.length))] []) := by
  refine fn_of Tryz.func45 (by kernel_rfl) ?_
  have hlm := byteC_len xs
  conv => whnf
  rw [hlm]
  have e : IntKind.i64.wrap (l - ↑xs.length) = l - ↑xs.length := wrap64 (by omega) (by omega)
  rw [e]
  refine ifP_of (fun h => ?_) (fun h => ?_)
  · have h := of_decide_eq_true h
    conv => whnf
    exact ⟨congrArg (fun x : Int => [V.sc (.int .i64 x)]) (show (-1 : Int) = _ from (dec_neg (by omega)).symm), rfl⟩
  · have h := of_decide_eq_false h
    conv => whnf
    exact ⟨congrArg (fun x : Int => [V.sc (.int .i64 x)]) (show l - (xs.length : Int) = _ from (dec_pos (by omega)).symm), rfl⟩
theorem szOprS_ok (xs : List Opr) (l : Int) (hb : xs.length ≤ 9223372036854775807) (h0 : 0 ≤ l) (h1 : l ≤ 1048576) (H : ∀ x ∈ xs, ∀ l, 0 ≤ l → l ≤ 1048576 → Fn Tryz.prog [] 137 [.agg x.acells, .sc (.int .i64 l)] [] (ret [.sc (.int .i64 (dec l x.w))] [])) : Fn Tryz.prog [] 89 [.sh 9 (Opr.css xs), .sc (.int .i64 l)] [] (ret [.sc (.int .i64 (dec l (Opr.ws xs)))] []) := by
  refine fn_of Tryz.func89 (by kernel_rfl) ?_
  have hlm := Opr.css_len xs
  conv => whnf
  rw [hlm]
  have e : IntKind.i64.wrap (l - ↑xs.length) = l - ↑xs.length := wrap64 (by omega) (by omega)
  rw [e]
  refine ifP_of (fun h => ?_) (fun h => ?_)
  · have h := of_decide_eq_true h
    conv => whnf
    exact ⟨congrArg (fun x : Int => [V.sc (.int .i64 x)]) (show (-1 : Int) = _ from (dec_neg (by unfold Opr.ws; omega)).symm), rfl⟩
  · have h := of_decide_eq_false h
    conv => whnf
    refine loop_of (A := Nat × Int) (fun x => ⟨[(0, .sh 9 (Opr.css xs)), (1, .sc (.int .i64 x.2)), (5, .sc (.int .i64 x.1))], [], 0, 27, 0⟩) (fun x => xs.length - x.1) (fun x => (x.1 ≤ xs.length ∧ 0 ≤ x.2 ∧ x.2 ≤ 1048576) ∧ dec x.2 (Opr.ss (xs.drop x.1)) = dec l (Opr.ws xs)) (0, l - xs.length) rfl ⟨⟨Nat.zero_le _, by dsimp only; omega, by dsimp only; omega⟩, ?_⟩ ?_
    · dsimp only
      rw [List.drop_zero, dec_dec (l := l) (c := Opr.ws xs) (by omega) rfl]
    intro ⟨i, m⟩ ⟨⟨hi, hm0, hm1⟩, hout⟩ X ih
    dsimp only at hi hm0 hm1 hout
    conv => whnf
    refine ifP_of (fun h2 => ?_) (fun h2 => ?_)
    · have hi1 : i < xs.length := by rw [hlm] at h2; have := of_decide_eq_true h2; omega
      have hss := Opr.ss_drop hi1
      conv => whnf
      try (refine chkP_of (by simp; done) ?_; conv => whnf)
      refine optP_of (Opr.css_get hi1) ?_
      conv => whnf
      refine Fn.use (H xs[i] (List.getElem_mem hi1) m hm0 hm1) ?_
      conv => whnf
      refine ⟨trivial, ?_⟩
      conv => whnf
      generalize hd : dec m xs[i].w = d
      refine ifP_of (fun h3 => ?_) (fun h3 => ?_)
      · have h3 := dec_lt hd (of_decide_eq_true h3) hm0
        conv => whnf
        exact ⟨congrArg (fun x : Int => [V.sc (.int .i64 x)]) (show (-1 : Int) = dec l (Opr.ws xs) by rw [← hout, dec_neg (by omega)]), rfl⟩
      · obtain ⟨h3, h4⟩ := dec_ge hd (of_decide_eq_false h3)
        conv => whnf
        have hw : IntKind.i64.wrap ((i : Int) + 1) = ((i + 1 : Nat) : Int) := by rw [wrap64 (by omega) (by omega)]; omega
        have h5 := ih (i+1, d) ⟨⟨by dsimp only; omega, by dsimp only; omega, by dsimp only; omega⟩, by dsimp only; rw [h4, dec_dec h3 hss, hout]⟩ (by dsimp only; omega)
        dsimp only at h5
        rw [← hw] at h5
        exact h5
    · have hi1 : ¬ i < xs.length := by rw [hlm] at h2; have := of_decide_eq_false h2; omega
      conv => whnf
      exact ⟨congrArg (fun x : Int => [V.sc (.int .i64 x)]) (show m = dec l (Opr.ws xs) by rw [← hout, List.drop_eq_nil_of_le (by omega), show Opr.ss [] = 0 from rfl, dec_zero hm0]), rfl⟩
theorem szModuS_ok (xs : List Modu) (l : Int) (hb : xs.length ≤ 9223372036854775807) (h0 : 0 ≤ l) (h1 : l ≤ 1048576) (H : ∀ x ∈ xs, ∀ l, 0 ≤ l → l ≤ 1048576 → Fn Tryz.prog [] 53 [.agg x.acells, .sc (.int .i64 l)] [] (ret [.sc (.int .i64 (dec l x.w))] [])) : Fn Tryz.prog [] 29 [.sh 3 (Modu.css xs), .sc (.int .i64 l)] [] (ret [.sc (.int .i64 (dec l (Modu.ws xs)))] []) := by
  refine fn_of Tryz.func29 (by kernel_rfl) ?_
  have hlm := Modu.css_len xs
  conv => whnf
  rw [hlm]
  have e : IntKind.i64.wrap (l - ↑xs.length) = l - ↑xs.length := wrap64 (by omega) (by omega)
  rw [e]
  refine ifP_of (fun h => ?_) (fun h => ?_)
  · have h := of_decide_eq_true h
    conv => whnf
    exact ⟨congrArg (fun x : Int => [V.sc (.int .i64 x)]) (show (-1 : Int) = _ from (dec_neg (by unfold Modu.ws; omega)).symm), rfl⟩
  · have h := of_decide_eq_false h
    conv => whnf
    refine loop_of (A := Nat × Int) (fun x => ⟨[(0, .sh 3 (Modu.css xs)), (1, .sc (.int .i64 x.2)), (5, .sc (.int .i64 x.1))], [], 0, 27, 0⟩) (fun x => xs.length - x.1) (fun x => (x.1 ≤ xs.length ∧ 0 ≤ x.2 ∧ x.2 ≤ 1048576) ∧ dec x.2 (Modu.ss (xs.drop x.1)) = dec l (Modu.ws xs)) (0, l - xs.length) rfl ⟨⟨Nat.zero_le _, by dsimp only; omega, by dsimp only; omega⟩, ?_⟩ ?_
    · dsimp only
      rw [List.drop_zero, dec_dec (l := l) (c := Modu.ws xs) (by omega) rfl]
    intro ⟨i, m⟩ ⟨⟨hi, hm0, hm1⟩, hout⟩ X ih
    dsimp only at hi hm0 hm1 hout
    conv => whnf
    refine ifP_of (fun h2 => ?_) (fun h2 => ?_)
    · have hi1 : i < xs.length := by rw [hlm] at h2; have := of_decide_eq_true h2; omega
      have hss := Modu.ss_drop hi1
      conv => whnf
      try (refine chkP_of (by simp; done) ?_; conv => whnf)
      refine optP_of (Modu.css_get hi1) ?_
      conv => whnf
      refine Fn.use (H xs[i] (List.getElem_mem hi1) m hm0 hm1) ?_
      conv => whnf
      refine ⟨trivial, ?_⟩
      conv => whnf
      generalize hd : dec m xs[i].w = d
      refine ifP_of (fun h3 => ?_) (fun h3 => ?_)
      · have h3 := dec_lt hd (of_decide_eq_true h3) hm0
        conv => whnf
        exact ⟨congrArg (fun x : Int => [V.sc (.int .i64 x)]) (show (-1 : Int) = dec l (Modu.ws xs) by rw [← hout, dec_neg (by omega)]), rfl⟩
      · obtain ⟨h3, h4⟩ := dec_ge hd (of_decide_eq_false h3)
        conv => whnf
        have hw : IntKind.i64.wrap ((i : Int) + 1) = ((i + 1 : Nat) : Int) := by rw [wrap64 (by omega) (by omega)]; omega
        have h5 := ih (i+1, d) ⟨⟨by dsimp only; omega, by dsimp only; omega, by dsimp only; omega⟩, by dsimp only; rw [h4, dec_dec h3 hss, hout]⟩ (by dsimp only; omega)
        dsimp only at h5
        rw [← hw] at h5
        exact h5
    · have hi1 : ¬ i < xs.length := by rw [hlm] at h2; have := of_decide_eq_false h2; omega
      conv => whnf
      exact ⟨congrArg (fun x : Int => [V.sc (.int .i64 x)]) (show m = dec l (Modu.ws xs) by rw [← hout, List.drop_eq_nil_of_le (by omega), show Modu.ss [] = 0 from rfl, dec_zero hm0]), rfl⟩
theorem szOpr_ok (a : Opr) (l : Int) (H_tag : ∀ l, 0 ≤ l → l ≤ 1048576 → Fn Tryz.prog [] 45 [.sh 1 (byteC a.tag), .sc (.int .i64 l)] [] (ret [.sc (.int .i64 (dec l (a.tag.length)))] [])) (H_inl : ∀ l, 0 ≤ l → l ≤ 1048576 → Fn Tryz.prog [] 89 [.sh 9 (Opr.css a.inl), .sc (.int .i64 l)] [] (ret [.sc (.int .i64 (dec l (Opr.ws a.inl)))] [])) (h0 : 0 ≤ l) (h1 : l ≤ 1048576) : Fn Tryz.prog [] 137 [.agg a.acells, .sc (.int .i64 l)] [] (ret [.sc (.int .i64 (dec l a.w))] []) := by
  obtain ⟨num, kind, ref, rep, oneof, tag, quick, run, inl⟩ := a
  refine fn_of Tryz.func137 (by kernel_rfl) ?_
  conv => whnf
  refine Fn.use (H_tag l (by omega) (by omega)) ?_
  conv => whnf
  refine ⟨trivial, ?_⟩
  conv => whnf
  generalize hd1 : dec l (tag.length) = d1
  refine ifP_of (fun h => ?_) (fun h => ?_)
  · have h := dec_lt hd1 (of_decide_eq_true h) (by omega)
    conv => whnf
    exact ⟨congrArg (fun x : Int => [V.sc (.int .i64 x)]) (show (-1 : Int) = dec l (tag.length + Opr.ws inl) from (dec_neg (by omega)).symm), rfl⟩
  · have g1 := dec_ge hd1 (of_decide_eq_false h)
    conv => whnf
    refine Fn.use (H_inl d1 (by omega) (by omega)) ?_
    conv => whnf
    refine ⟨trivial, ?_⟩
    conv => whnf
    generalize hd2 : dec d1 (Opr.ws inl) = d2
    refine ifP_of (fun h => ?_) (fun h => ?_)
    · have h := dec_lt hd2 (of_decide_eq_true h) (by omega)
      conv => whnf
      exact ⟨congrArg (fun x : Int => [V.sc (.int .i64 x)]) (show (-1 : Int) = dec l (tag.length + Opr.ws inl) from (dec_neg (by omega)).symm), rfl⟩
    · have g2 := dec_ge hd2 (of_decide_eq_false h)
      conv => whnf
      exact ⟨congrArg (fun x : Int => [V.sc (.int .i64 x)]) (show d2 = dec l (tag.length + Opr.ws inl) by rw [dec_pos (by omega)]; omega), rfl⟩
theorem szModu_ok (a : Modu) (l : Int) (H_ops : ∀ l, 0 ≤ l → l ≤ 1048576 → Fn Tryz.prog [] 89 [.sh 9 (Opr.css a.ops), .sc (.int .i64 l)] [] (ret [.sc (.int .i64 (dec l (Opr.ws a.ops)))] [])) (H_jumps : ∀ l, 0 ≤ l → l ≤ 1048576 → Fn Tryz.prog [] 90 [.sh 1 (intC a.jumps), .sc (.int .i64 l)] [] (ret [.sc (.int .i64 (dec l (a.jumps.length)))] [])) (h0 : 0 ≤ l) (h1 : l ≤ 1048576) : Fn Tryz.prog [] 53 [.agg a.acells, .sc (.int .i64 l)] [] (ret [.sc (.int .i64 (dec l a.w))] []) := by
  obtain ⟨ops, jumps, cached⟩ := a
  refine fn_of Tryz.func53 (by kernel_rfl) ?_
  conv => whnf
  refine Fn.use (H_ops l (by omega) (by omega)) ?_
  conv => whnf
  refine ⟨trivial, ?_⟩
  conv => whnf
  generalize hd1 : dec l (Opr.ws ops) = d1
  refine ifP_of (fun h => ?_) (fun h => ?_)
  · have h := dec_lt hd1 (of_decide_eq_true h) (by omega)
    conv => whnf
    exact ⟨congrArg (fun x : Int => [V.sc (.int .i64 x)]) (show (-1 : Int) = dec l (Opr.ws ops + jumps.length) from (dec_neg (by omega)).symm), rfl⟩
  · have g1 := dec_ge hd1 (of_decide_eq_false h)
    conv => whnf
    refine Fn.use (H_jumps d1 (by omega) (by omega)) ?_
    conv => whnf
    refine ⟨trivial, ?_⟩
    conv => whnf
    generalize hd2 : dec d1 (jumps.length) = d2
    refine ifP_of (fun h => ?_) (fun h => ?_)
    · have h := dec_lt hd2 (of_decide_eq_true h) (by omega)
      conv => whnf
      exact ⟨congrArg (fun x : Int => [V.sc (.int .i64 x)]) (show (-1 : Int) = dec l (Opr.ws ops + jumps.length) from (dec_neg (by omega)).symm), rfl⟩
    · have g2 := dec_ge hd2 (of_decide_eq_false h)
      conv => whnf
      exact ⟨congrArg (fun x : Int => [V.sc (.int .i64 x)]) (show d2 = dec l (Opr.ws ops + jumps.length) by rw [dec_pos (by omega)]; omega), rfl⟩
theorem szIr_ok (a : Ir) (l : Int) (H_mods : ∀ l, 0 ≤ l → l ≤ 1048576 → Fn Tryz.prog [] 29 [.sh 3 (Modu.css a.mods), .sc (.int .i64 l)] [] (ret [.sc (.int .i64 (dec l (Modu.ws a.mods)))] [])) (h0 : 0 ≤ l) (h1 : l ≤ 1048576) : Fn Tryz.prog [] 6 [.agg a.acells, .sc (.int .i64 l)] [] (ret [.sc (.int .i64 (dec l a.w))] []) := by
  obtain ⟨mods⟩ := a
  refine fn_of Tryz.func6 (by kernel_rfl) ?_
  conv => whnf
  refine Fn.use (H_mods l (by omega) (by omega)) ?_
  conv => whnf
  refine ⟨trivial, ?_⟩
  conv => whnf
  generalize hd1 : dec l (Modu.ws mods) = d1
  refine ifP_of (fun h => ?_) (fun h => ?_)
  · have h := dec_lt hd1 (of_decide_eq_true h) (by omega)
    conv => whnf
    exact ⟨congrArg (fun x : Int => [V.sc (.int .i64 x)]) (show (-1 : Int) = dec l (Modu.ws mods) from (dec_neg (by omega)).symm), rfl⟩
  · have g1 := dec_ge hd1 (of_decide_eq_false h)
    conv => whnf
    exact ⟨congrArg (fun x : Int => [V.sc (.int .i64 x)]) (show d1 = dec l (Modu.ws mods) by rw [dec_pos (by omega)]; omega), rfl⟩
end Ev
open Go Ev
open Go.Proofs
set_option maxRecDepth 100000
set_option maxHeartbeats 4000000
set_option linter.unusedVariables false
namespace Ev
theorem toIntS_ok (xs : List Int) (hb : xs.length ≤ 1048576)  : Fn Tryz.prog [] 99 [.sh 1 (intC xs)] [] (ret [.own true 1 (intC xs)] []) := by
  refine fn_of Tryz.func99 (by kernel_rfl) ?_
  have hlm := intC_len xs
  conv => whnf
  refine chkP_of ?_ ?_
  · rw [hlm]; simp; omega
  conv => whnf
  refine loop_of (A := Nat) (fun i => ⟨[(0, .sh 1 (intC xs)), (3, .hdr 0 []), (4, .sc (.int .i64 i))], [(0, some ⟨fillL (intC xs) [.sc (.int .i64 0)] i, true, 1, false⟩)], 1, 22, 0⟩) (fun i => xs.length - i) (fun i => i ≤ xs.length) 0 rfl (Nat.zero_le _) ?_
  intro i hi X ih
  conv => whnf
  refine ifP_of (fun h1 => ?_) (fun h1 => ?_)
  · have hi1 : i < xs.length := by rw [hlm] at h1; have := of_decide_eq_true h1; omega
    have hg := intC_get hi1
    conv => whnf
    try (refine chkP_of (by simp; done) ?_; conv => whnf)
    refine optP_of hg ?_
    conv => whnf
    try (refine chkP_of (by simp; done) ?_; conv => whnf)
    refine optP_of (fill_get (by rw [hlm]; exact hi1)) ?_
    conv => whnf
    refine optP_of (fill_get (by rw [hlm]; exact hi1)) ?_
    conv => whnf
    have hw : IntKind.i64.wrap ((i : Int) + 1) = ((i + 1 : Nat) : Int) := by rw [wrap64 (by omega) (by omega)]; omega
    have h2 := ih (i+1) (by omega) (by omega)
    rw [← fill_set hg, ← hw] at h2
    exact h2
  · have hi1 : ¬ i < xs.length := by rw [hlm] at h1; have := of_decide_eq_false h1; omega
    conv => whnf
    exact ⟨congrArg (fun es => [V.own true 1 es]) (fill_end (by rw [hlm]; omega)), rfl⟩
theorem toByteS_ok (xs : List Int) (hb : xs.length ≤ 1048576)  : Fn Tryz.prog [] 48 [.sh 1 (byteC xs)] [] (ret [.own true 1 (byteC xs)] []) := by
  refine fn_of Tryz.func48 (by kernel_rfl) ?_
  have hlm := byteC_len xs
  conv => whnf
  refine chkP_of ?_ ?_
  · rw [hlm]; simp; omega
  conv => whnf
  refine loop_of (A := Nat) (fun i => ⟨[(0, .sh 1 (byteC xs)), (3, .hdr 0 []), (4, .sc (.int .i64 i))], [(0, some ⟨fillL (byteC xs) [.sc (.int .u8 0)] i, true, 1, false⟩)], 1, 22, 0⟩) (fun i => xs.length - i) (fun i => i ≤ xs.length) 0 rfl (Nat.zero_le _) ?_
  intro i hi X ih
  conv => whnf
  refine ifP_of (fun h1 => ?_) (fun h1 => ?_)
  · have hi1 : i < xs.length := by rw [hlm] at h1; have := of_decide_eq_true h1; omega
    have hg := byteC_get hi1
    conv => whnf
    try (refine chkP_of (by simp; done) ?_; conv => whnf)
    refine optP_of hg ?_
    conv => whnf
    try (refine chkP_of (by simp; done) ?_; conv => whnf)
    refine optP_of (fill_get (by rw [hlm]; exact hi1)) ?_
    conv => whnf
    refine optP_of (fill_get (by rw [hlm]; exact hi1)) ?_
    conv => whnf
    have hw : IntKind.i64.wrap ((i : Int) + 1) = ((i + 1 : Nat) : Int) := by rw [wrap64 (by omega) (by omega)]; omega
    have h2 := ih (i+1) (by omega) (by omega)
    rw [← fill_set hg, ← hw] at h2
    exact h2
  · have hi1 : ¬ i < xs.length := by rw [hlm] at h1; have := of_decide_eq_false h1; omega
    conv => whnf
    exact ⟨congrArg (fun es => [V.own true 1 es]) (fill_end (by rw [hlm]; omega)), rfl⟩
theorem toOprS_ok (xs : List Opr) (hb : xs.length ≤ 1048576) (H : ∀ x ∈ xs, Fn Tryz.prog [] 141 [.agg x.acells] [] (ret [.agg x.ocells] [])) : Fn Tryz.prog [] 98 [.sh 9 (Opr.css xs)] [] (ret [.own true 9 (Opr.css xs)] []) := by
  refine fn_of Tryz.func98 (by kernel_rfl) ?_
  have hlm := Opr.css_len xs
  conv => whnf
  refine chkP_of ?_ ?_
  · rw [hlm]; simp; omega
  conv => whnf
  refine loop_of (A := Nat) (fun i => ⟨[(0, .sh 9 (Opr.css xs)), (3, .hdr 0 []), (4, .sc (.int .i64 i))], [(0, some ⟨fillL (Opr.css xs) [.sc (.int .i64 0), .sc (.int .i64 0), .sc (.int .i64 0), .sc (.bool false), .sc (.int .i64 0), .sl 1 [], .sc (.bool false), .sc (.int .i64 0), .sl 9 []] i, true, 9, false⟩)], 1, 23, 0⟩) (fun i => xs.length - i) (fun i => i ≤ xs.length) 0 rfl (Nat.zero_le _) ?_
  intro i hi X ih
  conv => whnf
  refine ifP_of (fun h1 => ?_) (fun h1 => ?_)
  · have hi1 : i < xs.length := by rw [hlm] at h1; have := of_decide_eq_true h1; omega
    have hg := Opr.css_get hi1
    conv => whnf
    try (refine chkP_of (by simp; done) ?_; conv => whnf)
    refine optP_of hg ?_
    conv => whnf
    refine Fn.use (H xs[i] (List.getElem_mem hi1)) ?_
    conv => whnf
    refine ⟨trivial, ?_⟩
    conv => whnf
    try (refine chkP_of (by simp; done) ?_; conv => whnf)
    refine optP_of (fill_get (by rw [hlm]; exact hi1)) ?_
    conv => whnf
    refine optP_of (fill_get (by rw [hlm]; exact hi1)) ?_
    conv => whnf
    have hw : IntKind.i64.wrap ((i : Int) + 1) = ((i + 1 : Nat) : Int) := by rw [wrap64 (by omega) (by omega)]; omega
    have h2 := ih (i+1) (by omega) (by omega)
    rw [← fill_set hg, ← hw] at h2
    exact h2
  · have hi1 : ¬ i < xs.length := by rw [hlm] at h1; have := of_decide_eq_false h1; omega
    conv => whnf
    exact ⟨congrArg (fun es => [V.own true 9 es]) (fill_end (by rw [hlm]; omega)), rfl⟩
theorem toModuS_ok (xs : List Modu) (hb : xs.length ≤ 1048576) (H : ∀ x ∈ xs, Fn Tryz.prog [] 60 [.agg x.acells] [] (ret [.agg x.ocells] [])) : Fn Tryz.prog [] 33 [.sh 3 (Modu.css xs)] [] (ret [.own true 3 (Modu.css xs)] []) := by
  refine fn_of Tryz.func33 (by kernel_rfl) ?_
  have hlm := Modu.css_len xs
  conv => whnf
  refine chkP_of ?_ ?_
  · rw [hlm]; simp; omega
  conv => whnf
  refine loop_of (A := Nat) (fun i => ⟨[(0, .sh 3 (Modu.css xs)), (3, .hdr 0 []), (4, .sc (.int .i64 i))], [(0, some ⟨fillL (Modu.css xs) [.sl 9 [], .sl 1 [], .sc (.bool false)] i, true, 3, false⟩)], 1, 23, 0⟩) (fun i => xs.length - i) (fun i => i ≤ xs.length) 0 rfl (Nat.zero_le _) ?_
  intro i hi X ih
  conv => whnf
  refine ifP_of (fun h1 => ?_) (fun h1 => ?_)
  · have hi1 : i < xs.length := by rw [hlm] at h1; have := of_decide_eq_true h1; omega
    have hg := Modu.css_get hi1
    conv => whnf
    try (refine chkP_of (by simp; done) ?_; conv => whnf)
    refine optP_of hg ?_
    conv => whnf
    refine Fn.use (H xs[i] (List.getElem_mem hi1)) ?_
    conv => whnf
    refine ⟨trivial, ?_⟩
    conv => whnf
    try (refine chkP_of (by simp; done) ?_; conv => whnf)
    refine optP_of (fill_get (by rw [hlm]; exact hi1)) ?_
    conv => whnf
    refine optP_of (fill_get (by rw [hlm]; exact hi1)) ?_
    conv => whnf
    have hw : IntKind.i64.wrap ((i : Int) + 1) = ((i + 1 : Nat) : Int) := by rw [wrap64 (by omega) (by omega)]; omega
    have h2 := ih (i+1) (by omega) (by omega)
    rw [← fill_set hg, ← hw] at h2
    exact h2
  · have hi1 : ¬ i < xs.length := by rw [hlm] at h1; have := of_decide_eq_false h1; omega
    conv => whnf
    exact ⟨congrArg (fun es => [V.own true 3 es]) (fill_end (by rw [hlm]; omega)), rfl⟩
theorem toOpr_ok (a : Opr) (H_tag : Fn Tryz.prog [] 48 [.sh 1 (byteC a.tag)] [] (ret [.own true 1 (byteC a.tag)] [])) (H_inl : Fn Tryz.prog [] 98 [.sh 9 (Opr.css a.inl)] [] (ret [.own true 9 (Opr.css a.inl)] [])) : Fn Tryz.prog [] 141 [.agg a.acells] [] (ret [.agg a.ocells] []) := by
  obtain ⟨num, kind, ref, rep, oneof, tag, quick, run, inl⟩ := a
  refine fn_of Tryz.func141 (by kernel_rfl) ?_
  conv => whnf
  refine Fn.use H_tag ?_
  conv => whnf
  refine ⟨trivial, ?_⟩
  conv => whnf
  refine Fn.use H_inl ?_
  conv => whnf
  refine ⟨trivial, ?_⟩
  conv => whnf
  exact ⟨rfl, rfl⟩
theorem toModu_ok (a : Modu) (H_ops : Fn Tryz.prog [] 98 [.sh 9 (Opr.css a.ops)] [] (ret [.own true 9 (Opr.css a.ops)] [])) (H_jumps : Fn Tryz.prog [] 99 [.sh 1 (intC a.jumps)] [] (ret [.own true 1 (intC a.jumps)] [])) : Fn Tryz.prog [] 60 [.agg a.acells] [] (ret [.agg a.ocells] []) := by
  obtain ⟨ops, jumps, cached⟩ := a
  refine fn_of Tryz.func60 (by kernel_rfl) ?_
  conv => whnf
  refine Fn.use H_ops ?_
  conv => whnf
  refine ⟨trivial, ?_⟩
  conv => whnf
  refine Fn.use H_jumps ?_
  conv => whnf
  refine ⟨trivial, ?_⟩
  conv => whnf
  exact ⟨rfl, rfl⟩
theorem toIr_ok (a : Ir) (H_mods : Fn Tryz.prog [] 33 [.sh 3 (Modu.css a.mods)] [] (ret [.own true 3 (Modu.css a.mods)] [])) : Fn Tryz.prog [] 8 [.agg a.acells] [] (ret [.agg a.ocells] []) := by
  obtain ⟨mods⟩ := a
  refine fn_of Tryz.func8 (by kernel_rfl) ?_
  conv => whnf
  refine Fn.use H_mods ?_
  conv => whnf
  refine ⟨trivial, ?_⟩
  conv => whnf
  exact ⟨rfl, rfl⟩
theorem eqStringS_ok (xs ys : List ByteArray) (hb : xs.length ≤ 1048576)  : Fn Tryz.prog [] 116 [.sh 1 (strC xs), .sh 1 (strC ys)] [] (ret [.sc (.bool (eqb xs ys))] []) := by
  refine fn_of Tryz.func116 (by kernel_rfl) ?_
  have hlx := strC_len xs
  have hly := strC_len ys
  conv => whnf
  rw [hlx, hly]
  refine ifP_of (fun h => ?_) (fun h => ?_)
  · have hne : ¬ xs = ys := fun e => by rw [e] at h; simp at h
    conv => whnf
    exact ⟨congrArg (fun x : Bool => [V.sc (.bool x)]) (eqb_no hne).symm, rfl⟩
  · have hlen : xs.length = ys.length := by
      simp only [bne_eq_false_iff_eq] at h; omega
    conv => whnf
    refine loop_of (A := Nat) (fun i => ⟨[(0, .sh 1 (strC xs)), (1, .sh 1 (strC ys)), (5, .sc (.int .i64 i))], [], 0, 26, 0⟩) (fun i => xs.length - i) (fun i => i ≤ xs.length ∧ eqb (xs.drop i) (ys.drop i) = eqb xs ys) 0 rfl ⟨Nat.zero_le _, by rw [List.drop_zero, List.drop_zero]⟩ ?_
    intro i ⟨hi, hout⟩ X ih
    conv => whnf
    refine ifP_of (fun h2 => ?_) (fun h2 => ?_)
    · have hi1 : i < xs.length := by rw [hlx] at h2; have := of_decide_eq_true h2; omega
      have hi2 : i < ys.length := by omega
      have hx : xs.drop i = xs[i] :: xs.drop (i+1) := List.drop_eq_getElem_cons hi1
      have hy : ys.drop i = ys[i] :: ys.drop (i+1) := List.drop_eq_getElem_cons hi2
      conv => whnf
      try (refine chkP_of (by simp; done) ?_; conv => whnf)
      refine optP_of (strC_get hi1) ?_
      conv => whnf
      try (refine chkP_of (by simp; done) ?_; conv => whnf)
      refine optP_of (strC_get hi2) ?_
      conv => whnf
      refine ifP_of (fun h3 => ?_) (fun h3 => ?_)
      · have h3 : ¬ xs[i] = ys[i] := by simpa [bytes_eq] using h3
        conv => whnf
        exact ⟨congrArg (fun x : Bool => [V.sc (.bool x)]) (show false = eqb xs ys by rw [← hout, hx, hy, eqb_no (fun e => h3 (List.cons.inj e).1)]), rfl⟩
      · have h3 : xs[i] = ys[i] := by simpa [bytes_eq] using h3
        conv => whnf
        have hw : IntKind.i64.wrap ((i : Int) + 1) = ((i + 1 : Nat) : Int) := by rw [wrap64 (by omega) (by omega)]; omega
        have h5 := ih (i+1) ⟨by omega, by rw [← hout, hx, hy, eqb_cons h3]⟩ (by omega)
        rw [← hw] at h5
        exact h5
    · have hi1 : ¬ i < xs.length := by rw [hlx] at h2; have := of_decide_eq_false h2; omega
      conv => whnf
      exact ⟨congrArg (fun x : Bool => [V.sc (.bool x)]) (show true = eqb xs ys by rw [← hout, List.drop_eq_nil_of_le (by omega), List.drop_eq_nil_of_le (by omega), eqb_yes rfl]), rfl⟩
theorem eqIntS_ok (xs ys : List Int) (hb : xs.length ≤ 1048576)  : Fn Tryz.prog [] 23 [.sh 1 (intC xs), .sh 1 (intC ys)] [] (ret [.sc (.bool (eqb xs ys))] []) := by
  refine fn_of Tryz.func23 (by kernel_rfl) ?_
  have hlx := intC_len xs
  have hly := intC_len ys
  conv => whnf
  rw [hlx, hly]
  refine ifP_of (fun h => ?_) (fun h => ?_)
  · have hne : ¬ xs = ys := fun e => by rw [e] at h; simp at h
    conv => whnf
    exact ⟨congrArg (fun x : Bool => [V.sc (.bool x)]) (eqb_no hne).symm, rfl⟩
  · have hlen : xs.length = ys.length := by
      simp only [bne_eq_false_iff_eq] at h; omega
    conv => whnf
    refine loop_of (A := Nat) (fun i => ⟨[(0, .sh 1 (intC xs)), (1, .sh 1 (intC ys)), (5, .sc (.int .i64 i))], [], 0, 26, 0⟩) (fun i => xs.length - i) (fun i => i ≤ xs.length ∧ eqb (xs.drop i) (ys.drop i) = eqb xs ys) 0 rfl ⟨Nat.zero_le _, by rw [List.drop_zero, List.drop_zero]⟩ ?_
    intro i ⟨hi, hout⟩ X ih
    conv => whnf
    refine ifP_of (fun h2 => ?_) (fun h2 => ?_)
    · have hi1 : i < xs.length := by rw [hlx] at h2; have := of_decide_eq_true h2; omega
      have hi2 : i < ys.length := by omega
      have hx : xs.drop i = xs[i] :: xs.drop (i+1) := List.drop_eq_getElem_cons hi1
      have hy : ys.drop i = ys[i] :: ys.drop (i+1) := List.drop_eq_getElem_cons hi2
      conv => whnf
      try (refine chkP_of (by simp; done) ?_; conv => whnf)
      refine optP_of (intC_get hi1) ?_
      conv => whnf
      try (refine chkP_of (by simp; done) ?_; conv => whnf)
      refine optP_of (intC_get hi2) ?_
      conv => whnf
      refine ifP_of (fun h3 => ?_) (fun h3 => ?_)
      · have h3 : ¬ xs[i] = ys[i] := by simpa [bytes_eq] using h3
        conv => whnf
        exact ⟨congrArg (fun x : Bool => [V.sc (.bool x)]) (show false = eqb xs ys by rw [← hout, hx, hy, eqb_no (fun e => h3 (List.cons.inj e).1)]), rfl⟩
      · have h3 : xs[i] = ys[i] := by simpa [bytes_eq] using h3
        conv => whnf
        have hw : IntKind.i64.wrap ((i : Int) + 1) = ((i + 1 : Nat) : Int) := by rw [wrap64 (by omega) (by omega)]; omega
        have h5 := ih (i+1) ⟨by omega, by rw [← hout, hx, hy, eqb_cons h3]⟩ (by omega)
        rw [← hw] at h5
        exact h5
    · have hi1 : ¬ i < xs.length := by rw [hlx] at h2; have := of_decide_eq_false h2; omega
      conv => whnf
      exact ⟨congrArg (fun x : Bool => [V.sc (.bool x)]) (show true = eqb xs ys by rw [← hout, List.drop_eq_nil_of_le (by omega), List.drop_eq_nil_of_le (by omega), eqb_yes rfl]), rfl⟩
theorem eqByteS_ok (xs ys : List Int) (hb : xs.length ≤ 1048576)  : Fn Tryz.prog [] 22 [.sh 1 (byteC xs), .sh 1 (byteC ys)] [] (ret [.sc (.bool (eqb xs ys))] []) := by
  refine fn_of Tryz.func22 (by kernel_rfl) ?_
  have hlx := byteC_len xs
  have hly := byteC_len ys
  conv => whnf
  rw [hlx, hly]
  refine ifP_of (fun h => ?_) (fun h => ?_)
  · have hne : ¬ xs = ys := fun e => by rw [e] at h; simp at h
    conv => whnf
    exact ⟨congrArg (fun x : Bool => [V.sc (.bool x)]) (eqb_no hne).symm, rfl⟩
  · have hlen : xs.length = ys.length := by
      simp only [bne_eq_false_iff_eq] at h; omega
    conv => whnf
    refine loop_of (A := Nat) (fun i => ⟨[(0, .sh 1 (byteC xs)), (1, .sh 1 (byteC ys)), (5, .sc (.int .i64 i))], [], 0, 26, 0⟩) (fun i => xs.length - i) (fun i => i ≤ xs.length ∧ eqb (xs.drop i) (ys.drop i) = eqb xs ys) 0 rfl ⟨Nat.zero_le _, by rw [List.drop_zero, List.drop_zero]⟩ ?_
    intro i ⟨hi, hout⟩ X ih
    conv => whnf
    refine ifP_of (fun h2 => ?_) (fun h2 => ?_)
    · have hi1 : i < xs.length := by rw [hlx] at h2; have := of_decide_eq_true h2; omega
      have hi2 : i < ys.length := by omega
      have hx : xs.drop i = xs[i] :: xs.drop (i+1) := List.drop_eq_getElem_cons hi1
      have hy : ys.drop i = ys[i] :: ys.drop (i+1) := List.drop_eq_getElem_cons hi2
      conv => whnf
      try (refine chkP_of (by simp; done) ?_; conv => whnf)
      refine optP_of (byteC_get hi1) ?_
      conv => whnf
      try (refine chkP_of (by simp; done) ?_; conv => whnf)
      refine optP_of (byteC_get hi2) ?_
      conv => whnf
      refine ifP_of (fun h3 => ?_) (fun h3 => ?_)
      · have h3 : ¬ xs[i] = ys[i] := by simpa [bytes_eq] using h3
        conv => whnf
        exact ⟨congrArg (fun x : Bool => [V.sc (.bool x)]) (show false = eqb xs ys by rw [← hout, hx, hy, eqb_no (fun e => h3 (List.cons.inj e).1)]), rfl⟩
      · have h3 : xs[i] = ys[i] := by simpa [bytes_eq] using h3
        conv => whnf
        have hw : IntKind.i64.wrap ((i : Int) + 1) = ((i + 1 : Nat) : Int) := by rw [wrap64 (by omega) (by omega)]; omega
        have h5 := ih (i+1) ⟨by omega, by rw [← hout, hx, hy, eqb_cons h3]⟩ (by omega)
        rw [← hw] at h5
        exact h5
    · have hi1 : ¬ i < xs.length := by rw [hlx] at h2; have := of_decide_eq_false h2; omega
      conv => whnf
      exact ⟨congrArg (fun x : Bool => [V.sc (.bool x)]) (show true = eqb xs ys by rw [← hout, List.drop_eq_nil_of_le (by omega), List.drop_eq_nil_of_le (by omega), eqb_yes rfl]), rfl⟩
theorem eqOprS_ok (xs ys : List Opr) (hb : xs.length ≤ 1048576) (H : ∀ x ∈ xs, ∀ y ∈ ys, Fn Tryz.prog [] 147 [.agg x.acells, .agg y.acells] [] (ret [.sc (.bool (eqb x y))] [])) : Fn Tryz.prog [] 117 [.sh 9 (Opr.css xs), .sh 9 (Opr.css ys)] [] (ret [.sc (.bool (eqb xs ys))] []) := by
  refine fn_of Tryz.func117 (by kernel_rfl) ?_
  have hlx := Opr.css_len xs
  have hly := Opr.css_len ys
  conv => whnf
  rw [hlx, hly]
  refine ifP_of (fun h => ?_) (fun h => ?_)
  · have hne : ¬ xs = ys := fun e => by rw [e] at h; simp at h
    conv => whnf
    exact ⟨congrArg (fun x : Bool => [V.sc (.bool x)]) (eqb_no hne).symm, rfl⟩
  · have hlen : xs.length = ys.length := by
      simp only [bne_eq_false_iff_eq] at h; omega
    conv => whnf
    refine loop_of (A := Nat) (fun i => ⟨[(0, .sh 9 (Opr.css xs)), (1, .sh 9 (Opr.css ys)), (5, .sc (.int .i64 i))], [], 0, 27, 0⟩) (fun i => xs.length - i) (fun i => i ≤ xs.length ∧ eqb (xs.drop i) (ys.drop i) = eqb xs ys) 0 rfl ⟨Nat.zero_le _, by rw [List.drop_zero, List.drop_zero]⟩ ?_
    intro i ⟨hi, hout⟩ X ih
    conv => whnf
    refine ifP_of (fun h2 => ?_) (fun h2 => ?_)
    · have hi1 : i < xs.length := by rw [hlx] at h2; have := of_decide_eq_true h2; omega
      have hi2 : i < ys.length := by omega
      have hx : xs.drop i = xs[i] :: xs.drop (i+1) := List.drop_eq_getElem_cons hi1
      have hy : ys.drop i = ys[i] :: ys.drop (i+1) := List.drop_eq_getElem_cons hi2
      conv => whnf
      try (refine chkP_of (by simp; done) ?_; conv => whnf)
      refine optP_of (Opr.css_get hi1) ?_
      conv => whnf
      try (refine chkP_of (by simp; done) ?_; conv => whnf)
      refine optP_of (Opr.css_get hi2) ?_
      conv => whnf
      refine Fn.use (H xs[i] (List.getElem_mem hi1) ys[i] (List.getElem_mem hi2)) ?_
      conv => whnf
      refine ⟨trivial, ?_⟩
      conv => whnf
      refine ifP_of (fun h3 => ?_) (fun h3 => ?_)
      · have h3 : ¬ xs[i] = ys[i] := of_eqb_no (by simpa using h3)
        conv => whnf
        exact ⟨congrArg (fun x : Bool => [V.sc (.bool x)]) (show false = eqb xs ys by rw [← hout, hx, hy, eqb_no (fun e => h3 (List.cons.inj e).1)]), rfl⟩
      · have h3 : xs[i] = ys[i] := of_eqb (by simpa using h3)
        conv => whnf
        have hw : IntKind.i64.wrap ((i : Int) + 1) = ((i + 1 : Nat) : Int) := by rw [wrap64 (by omega) (by omega)]; omega
        have h5 := ih (i+1) ⟨by omega, by rw [← hout, hx, hy, eqb_cons h3]⟩ (by omega)
        rw [← hw] at h5
        exact h5
    · have hi1 : ¬ i < xs.length := by rw [hlx] at h2; have := of_decide_eq_false h2; omega
      conv => whnf
      exact ⟨congrArg (fun x : Bool => [V.sc (.bool x)]) (show true = eqb xs ys by rw [← hout, List.drop_eq_nil_of_le (by omega), List.drop_eq_nil_of_le (by omega), eqb_yes rfl]), rfl⟩
theorem eqModuS_ok (xs ys : List Modu) (hb : xs.length ≤ 1048576) (H : ∀ x ∈ xs, ∀ y ∈ ys, Fn Tryz.prog [] 71 [.agg x.acells, .agg y.acells] [] (ret [.sc (.bool (eqb x y))] [])) : Fn Tryz.prog [] 38 [.sh 3 (Modu.css xs), .sh 3 (Modu.css ys)] [] (ret [.sc (.bool (eqb xs ys))] []) := by
  refine fn_of Tryz.func38 (by kernel_rfl) ?_
  have hlx := Modu.css_len xs
  have hly := Modu.css_len ys
  conv => whnf
  rw [hlx, hly]
  refine ifP_of (fun h => ?_) (fun h => ?_)
  · have hne : ¬ xs = ys := fun e => by rw [e] at h; simp at h
    conv => whnf
    exact ⟨congrArg (fun x : Bool => [V.sc (.bool x)]) (eqb_no hne).symm, rfl⟩
  · have hlen : xs.length = ys.length := by
      simp only [bne_eq_false_iff_eq] at h; omega
    conv => whnf
    refine loop_of (A := Nat) (fun i => ⟨[(0, .sh 3 (Modu.css xs)), (1, .sh 3 (Modu.css ys)), (5, .sc (.int .i64 i))], [], 0, 27, 0⟩) (fun i => xs.length - i) (fun i => i ≤ xs.length ∧ eqb (xs.drop i) (ys.drop i) = eqb xs ys) 0 rfl ⟨Nat.zero_le _, by rw [List.drop_zero, List.drop_zero]⟩ ?_
    intro i ⟨hi, hout⟩ X ih
    conv => whnf
    refine ifP_of (fun h2 => ?_) (fun h2 => ?_)
    · have hi1 : i < xs.length := by rw [hlx] at h2; have := of_decide_eq_true h2; omega
      have hi2 : i < ys.length := by omega
      have hx : xs.drop i = xs[i] :: xs.drop (i+1) := List.drop_eq_getElem_cons hi1
      have hy : ys.drop i = ys[i] :: ys.drop (i+1) := List.drop_eq_getElem_cons hi2
      conv => whnf
      try (refine chkP_of (by simp; done) ?_; conv => whnf)
      refine optP_of (Modu.css_get hi1) ?_
      conv => whnf
      try (refine chkP_of (by simp; done) ?_; conv => whnf)
      refine optP_of (Modu.css_get hi2) ?_
      conv => whnf
      refine Fn.use (H xs[i] (List.getElem_mem hi1) ys[i] (List.getElem_mem hi2)) ?_
      conv => whnf
      refine ⟨trivial, ?_⟩
      conv => whnf
      refine ifP_of (fun h3 => ?_) (fun h3 => ?_)
      · have h3 : ¬ xs[i] = ys[i] := of_eqb_no (by simpa using h3)
        conv => whnf
        exact ⟨congrArg (fun x : Bool => [V.sc (.bool x)]) (show false = eqb xs ys by rw [← hout, hx, hy, eqb_no (fun e => h3 (List.cons.inj e).1)]), rfl⟩
      · have h3 : xs[i] = ys[i] := of_eqb (by simpa using h3)
        conv => whnf
        have hw : IntKind.i64.wrap ((i : Int) + 1) = ((i + 1 : Nat) : Int) := by rw [wrap64 (by omega) (by omega)]; omega
        have h5 := ih (i+1) ⟨by omega, by rw [← hout, hx, hy, eqb_cons h3]⟩ (by omega)
        rw [← hw] at h5
        exact h5
    · have hi1 : ¬ i < xs.length := by rw [hlx] at h2; have := of_decide_eq_false h2; omega
      conv => whnf
      exact ⟨congrArg (fun x : Bool => [V.sc (.bool x)]) (show true = eqb xs ys by rw [← hout, List.drop_eq_nil_of_le (by omega), List.drop_eq_nil_of_le (by omega), eqb_yes rfl]), rfl⟩
theorem eqOpr_ok (a b : Opr) (H_tag : Fn Tryz.prog [] 22 [.sh 1 (byteC a.tag), .sh 1 (byteC b.tag)] [] (ret [.sc (.bool (eqb a.tag b.tag))] [])) (H_inl : Fn Tryz.prog [] 117 [.sh 9 (Opr.css a.inl), .sh 9 (Opr.css b.inl)] [] (ret [.sc (.bool (eqb a.inl b.inl))] [])) : Fn Tryz.prog [] 147 [.agg a.acells, .agg b.acells] [] (ret [.sc (.bool (eqb a b))] []) := by
  obtain ⟨a_num, a_kind, a_ref, a_rep, a_oneof, a_tag, a_quick, a_run, a_inl⟩ := a
  obtain ⟨b_num, b_kind, b_ref, b_rep, b_oneof, b_tag, b_quick, b_run, b_inl⟩ := b
  refine fn_of Tryz.func147 (by kernel_rfl) ?_
  conv => whnf
  refine ifP_of (fun h => ?_) (fun h => ?_)
  · have h : ¬ a_num = b_num := by simpa [bytes_eq] using h
    conv => whnf
    exact ⟨congrArg (fun x : Bool => [V.sc (.bool x)]) (eqb_no (fun e => h (by injection e))).symm, rfl⟩
  · have g0 : a_num = b_num := by simpa [bytes_eq] using h
    conv => whnf
    refine ifP_of (fun h => ?_) (fun h => ?_)
    · have h : ¬ a_kind = b_kind := by simpa [bytes_eq] using h
      conv => whnf
      exact ⟨congrArg (fun x : Bool => [V.sc (.bool x)]) (eqb_no (fun e => h (by injection e))).symm, rfl⟩
    · have g1 : a_kind = b_kind := by simpa [bytes_eq] using h
      conv => whnf
      refine ifP_of (fun h => ?_) (fun h => ?_)
      · have h : ¬ a_ref = b_ref := by simpa [bytes_eq] using h
        conv => whnf
        exact ⟨congrArg (fun x : Bool => [V.sc (.bool x)]) (eqb_no (fun e => h (by injection e))).symm, rfl⟩
      · have g2 : a_ref = b_ref := by simpa [bytes_eq] using h
        conv => whnf
        refine ifP_of (fun h => ?_) (fun h => ?_)
        · have h : ¬ a_rep = b_rep := by simpa [bytes_eq] using h
          conv => whnf
          exact ⟨congrArg (fun x : Bool => [V.sc (.bool x)]) (eqb_no (fun e => h (by injection e))).symm, rfl⟩
        · have g3 : a_rep = b_rep := by simpa [bytes_eq] using h
          conv => whnf
          refine ifP_of (fun h => ?_) (fun h => ?_)
          · have h : ¬ a_oneof = b_oneof := by simpa [bytes_eq] using h
            conv => whnf
            exact ⟨congrArg (fun x : Bool => [V.sc (.bool x)]) (eqb_no (fun e => h (by injection e))).symm, rfl⟩
          · have g4 : a_oneof = b_oneof := by simpa [bytes_eq] using h
            conv => whnf
            refine Fn.use H_tag ?_
            conv => whnf
            refine ⟨trivial, ?_⟩
            conv => whnf
            refine ifP_of (fun h => ?_) (fun h => ?_)
            · have h : ¬ a_tag = b_tag := of_eqb_no (by simpa using h)
              conv => whnf
              exact ⟨congrArg (fun x : Bool => [V.sc (.bool x)]) (eqb_no (fun e => h (by injection e))).symm, rfl⟩
            · have g5 : a_tag = b_tag := of_eqb (by simpa using h)
              conv => whnf
              refine ifP_of (fun h => ?_) (fun h => ?_)
              · have h : ¬ a_quick = b_quick := by simpa [bytes_eq] using h
                conv => whnf
                exact ⟨congrArg (fun x : Bool => [V.sc (.bool x)]) (eqb_no (fun e => h (by injection e))).symm, rfl⟩
              · have g6 : a_quick = b_quick := by simpa [bytes_eq] using h
                conv => whnf
                refine ifP_of (fun h => ?_) (fun h => ?_)
                · have h : ¬ a_run = b_run := by simpa [bytes_eq] using h
                  conv => whnf
                  exact ⟨congrArg (fun x : Bool => [V.sc (.bool x)]) (eqb_no (fun e => h (by injection e))).symm, rfl⟩
                · have g7 : a_run = b_run := by simpa [bytes_eq] using h
                  conv => whnf
                  refine Fn.use H_inl ?_
                  conv => whnf
                  refine ⟨trivial, ?_⟩
                  conv => whnf
                  refine ifP_of (fun h => ?_) (fun h => ?_)
                  · have h : ¬ a_inl = b_inl := of_eqb_no (by simpa using h)
                    conv => whnf
                    exact ⟨congrArg (fun x : Bool => [V.sc (.bool x)]) (eqb_no (fun e => h (by injection e))).symm, rfl⟩
                  · have g8 : a_inl = b_inl := of_eqb (by simpa using h)
                    conv => whnf
                    exact ⟨congrArg (fun x : Bool => [V.sc (.bool x)]) (eqb_yes (by rw [g0, g1, g2, g3, g4, g5, g6, g7, g8])).symm, rfl⟩
theorem eqModu_ok (a b : Modu) (H_ops : Fn Tryz.prog [] 117 [.sh 9 (Opr.css a.ops), .sh 9 (Opr.css b.ops)] [] (ret [.sc (.bool (eqb a.ops b.ops))] [])) (H_jumps : Fn Tryz.prog [] 23 [.sh 1 (intC a.jumps), .sh 1 (intC b.jumps)] [] (ret [.sc (.bool (eqb a.jumps b.jumps))] [])) : Fn Tryz.prog [] 71 [.agg a.acells, .agg b.acells] [] (ret [.sc (.bool (eqb a b))] []) := by
  obtain ⟨a_ops, a_jumps, a_cached⟩ := a
  obtain ⟨b_ops, b_jumps, b_cached⟩ := b
  refine fn_of Tryz.func71 (by kernel_rfl) ?_
  conv => whnf
  refine Fn.use H_ops ?_
  conv => whnf
  refine ⟨trivial, ?_⟩
  conv => whnf
  refine ifP_of (fun h => ?_) (fun h => ?_)
  · have h : ¬ a_ops = b_ops := of_eqb_no (by simpa using h)
    conv => whnf
    exact ⟨congrArg (fun x : Bool => [V.sc (.bool x)]) (eqb_no (fun e => h (by injection e))).symm, rfl⟩
  · have g0 : a_ops = b_ops := of_eqb (by simpa using h)
    conv => whnf
    refine Fn.use H_jumps ?_
    conv => whnf
    refine ⟨trivial, ?_⟩
    conv => whnf
    refine ifP_of (fun h => ?_) (fun h => ?_)
    · have h : ¬ a_jumps = b_jumps := of_eqb_no (by simpa using h)
      conv => whnf
      exact ⟨congrArg (fun x : Bool => [V.sc (.bool x)]) (eqb_no (fun e => h (by injection e))).symm, rfl⟩
    · have g1 : a_jumps = b_jumps := of_eqb (by simpa using h)
      conv => whnf
      refine ifP_of (fun h => ?_) (fun h => ?_)
      · have h : ¬ a_cached = b_cached := by simpa [bytes_eq] using h
        conv => whnf
        exact ⟨congrArg (fun x : Bool => [V.sc (.bool x)]) (eqb_no (fun e => h (by injection e))).symm, rfl⟩
      · have g2 : a_cached = b_cached := by simpa [bytes_eq] using h
        conv => whnf
        exact ⟨congrArg (fun x : Bool => [V.sc (.bool x)]) (eqb_yes (by rw [g0, g1, g2])).symm, rfl⟩
theorem eqIr_ok (a b : Ir) (H_mods : Fn Tryz.prog [] 38 [.sh 3 (Modu.css a.mods), .sh 3 (Modu.css b.mods)] [] (ret [.sc (.bool (eqb a.mods b.mods))] [])) : Fn Tryz.prog [] 11 [.agg a.acells, .agg b.acells] [] (ret [.sc (.bool (eqb a b))] []) := by
  obtain ⟨a_mods⟩ := a
  obtain ⟨b_mods⟩ := b
  refine fn_of Tryz.func11 (by kernel_rfl) ?_
  conv => whnf
  refine Fn.use H_mods ?_
  conv => whnf
  refine ⟨trivial, ?_⟩
  conv => whnf
  refine ifP_of (fun h => ?_) (fun h => ?_)
  · have h : ¬ a_mods = b_mods := of_eqb_no (by simpa using h)
    conv => whnf
    exact ⟨congrArg (fun x : Bool => [V.sc (.bool x)]) (eqb_no (fun e => h (by injection e))).symm, rfl⟩
  · have g0 : a_mods = b_mods := of_eqb (by simpa using h)
    conv => whnf
    exact ⟨congrArg (fun x : Bool => [V.sc (.bool x)]) (eqb_yes (by rw [g0])).symm, rfl⟩
end Ev
open Go Ev
open Go.Proofs
set_option maxRecDepth 100000
set_option maxHeartbeats 4000000
set_option linter.unusedVariables false
namespace Ev
theorem szOpr_rec : ∀ (n : Nat) (a : Opr), sizeOf a < n → a.ok → ∀ l, 0 ≤ l → l ≤ 1048576 → Fn Tryz.prog [] 137 [.agg a.acells, .sc (.int .i64 l)] [] (ret [.sc (.int .i64 (dec l a.w))] []) := by
  intro n
  induction n with
  | zero => intro a hn; omega
  | succ n ih =>
    intro a hn ha l h0 h1
    obtain ⟨num, kind, ref, rep, oneof, tag, quick, run, inl⟩ := a
    have ha : tag.length ≤ 9223372036854775807 ∧ (inl.length ≤ 9223372036854775807 ∧ Opr.okl inl) := ha
    obtain ⟨p_tag, p_inl⟩ := ha
    exact szOpr_ok _ l (fun l h0 h1 => szByteS_ok tag l p_tag h0 h1) (fun l h0 h1 => szOprS_ok inl l p_inl.1 h0 h1 (fun x hx l h0 h1 => ih x (by have := List.sizeOf_lt_of_mem hx; simp at hn; omega) (Opr.okl_mem p_inl.2 x hx) l h0 h1)) h0 h1
theorem szOpr_all (a : Opr) (ha : a.ok) : ∀ l, 0 ≤ l → l ≤ 1048576 → Fn Tryz.prog [] 137 [.agg a.acells, .sc (.int .i64 l)] [] (ret [.sc (.int .i64 (dec l a.w))] []) := szOpr_rec _ a (Nat.lt_succ_self _) ha
theorem szOprS_all (xs : List Opr) (h : Opr.oks xs) (l : Int) (h0 : 0 ≤ l) (h1 : l ≤ 1048576) : Fn Tryz.prog [] 89 [.sh 9 (Opr.css xs), .sc (.int .i64 l)] [] (ret [.sc (.int .i64 (dec l (Opr.ws xs)))] []) := szOprS_ok xs l h.1 h0 h1 (fun x hx l h0 h1 => szOpr_all x (Opr.okl_mem h.2 x hx) l h0 h1)
theorem szModu_all (a : Modu) (ha : a.ok) : ∀ l, 0 ≤ l → l ≤ 1048576 → Fn Tryz.prog [] 53 [.agg a.acells, .sc (.int .i64 l)] [] (ret [.sc (.int .i64 (dec l a.w))] []) := by
    intro l h0 h1
    obtain ⟨ops, jumps, cached⟩ := a
    have ha : Opr.oks ops ∧ jumps.length ≤ 9223372036854775807 := ha
    obtain ⟨p_ops, p_jumps⟩ := ha
    exact szModu_ok _ l (fun l h0 h1 => szOprS_all ops p_ops l h0 h1) (fun l h0 h1 => szIntS_ok jumps l p_jumps h0 h1) h0 h1
theorem szModuS_all (xs : List Modu) (h : Modu.oks xs) (l : Int) (h0 : 0 ≤ l) (h1 : l ≤ 1048576) : Fn Tryz.prog [] 29 [.sh 3 (Modu.css xs), .sc (.int .i64 l)] [] (ret [.sc (.int .i64 (dec l (Modu.ws xs)))] []) := szModuS_ok xs l h.1 h0 h1 (fun x hx l h0 h1 => szModu_all x (Modu.okl_mem h.2 x hx) l h0 h1)
theorem szIr_all (a : Ir) (ha : a.ok) : ∀ l, 0 ≤ l → l ≤ 1048576 → Fn Tryz.prog [] 6 [.agg a.acells, .sc (.int .i64 l)] [] (ret [.sc (.int .i64 (dec l a.w))] []) := by
    intro l h0 h1
    obtain ⟨mods⟩ := a
    have ha : Modu.oks mods := ha
    have p_mods := ha
    exact szIr_ok _ l (fun l h0 h1 => szModuS_all mods p_mods l h0 h1) h0 h1
theorem toOpr_rec : ∀ (n : Nat) (a : Opr), sizeOf a < n → a.w ≤ 1048576 → Fn Tryz.prog [] 141 [.agg a.acells] [] (ret [.agg a.ocells] []) := by
  intro n
  induction n with
  | zero => intro a hn; omega
  | succ n ih =>
    intro a hn ha 
    obtain ⟨a_num, a_kind, a_ref, a_rep, a_oneof, a_tag, a_quick, a_run, a_inl⟩ := a
    have ha : a_tag.length + (a_inl.length + Opr.ss a_inl) ≤ 1048576 := ha
    exact toOpr_ok _ (toByteS_ok a_tag (by omega)) (toOprS_ok a_inl (by omega) (fun x hx => ih x (by have := List.sizeOf_lt_of_mem hx; simp at hn; omega) (by have := Opr.ss_mem hx; omega)))
theorem toOpr_all (a : Opr) (ha : a.w ≤ 1048576) : Fn Tryz.prog [] 141 [.agg a.acells] [] (ret [.agg a.ocells] []) := toOpr_rec _ a (Nat.lt_succ_self _) ha
theorem toOprS_all (xs : List Opr) (h : Opr.ws xs ≤ 1048576) : Fn Tryz.prog [] 98 [.sh 9 (Opr.css xs)] [] (ret [.own true 9 (Opr.css xs)] []) := by
  unfold Opr.ws at h
  exact toOprS_ok xs (by omega) (fun x hx => toOpr_all x (by have := Opr.ss_mem hx; omega))
theorem toModu_all (a : Modu) (ha : a.w ≤ 1048576) : Fn Tryz.prog [] 60 [.agg a.acells] [] (ret [.agg a.ocells] []) := by
    obtain ⟨a_ops, a_jumps, a_cached⟩ := a
    have ha : Opr.ws a_ops + a_jumps.length ≤ 1048576 := ha
    exact toModu_ok _ (toOprS_all a_ops (by omega)) (toIntS_ok a_jumps (by omega))
theorem toModuS_all (xs : List Modu) (h : Modu.ws xs ≤ 1048576) : Fn Tryz.prog [] 33 [.sh 3 (Modu.css xs)] [] (ret [.own true 3 (Modu.css xs)] []) := by
  unfold Modu.ws at h
  exact toModuS_ok xs (by omega) (fun x hx => toModu_all x (by have := Modu.ss_mem hx; omega))
theorem toIr_all (a : Ir) (ha : a.w ≤ 1048576) : Fn Tryz.prog [] 8 [.agg a.acells] [] (ret [.agg a.ocells] []) := by
    obtain ⟨a_mods⟩ := a
    have ha : Modu.ws a_mods ≤ 1048576 := ha
    exact toIr_ok _ (toModuS_all a_mods (by omega))
theorem eqOpr_rec : ∀ (n : Nat) (a : Opr), sizeOf a < n → a.w ≤ 1048576 → ∀ b : Opr, Fn Tryz.prog [] 147 [.agg a.acells, .agg b.acells] [] (ret [.sc (.bool (eqb a b))] []) := by
  intro n
  induction n with
  | zero => intro a hn; omega
  | succ n ih =>
    intro a hn ha b
    obtain ⟨a_num, a_kind, a_ref, a_rep, a_oneof, a_tag, a_quick, a_run, a_inl⟩ := a
    have ha : a_tag.length + (a_inl.length + Opr.ss a_inl) ≤ 1048576 := ha
    obtain ⟨b_num, b_kind, b_ref, b_rep, b_oneof, b_tag, b_quick, b_run, b_inl⟩ := b
    exact eqOpr_ok _ _ (eqByteS_ok a_tag b_tag (by omega)) (eqOprS_ok a_inl b_inl (by omega) (fun x hx y hy => ih x (by have := List.sizeOf_lt_of_mem hx; simp at hn; omega) (by have := Opr.ss_mem hx; omega) y))
theorem eqOpr_all (a : Opr) (ha : a.w ≤ 1048576) : ∀ b : Opr, Fn Tryz.prog [] 147 [.agg a.acells, .agg b.acells] [] (ret [.sc (.bool (eqb a b))] []) := eqOpr_rec _ a (Nat.lt_succ_self _) ha
theorem eqOprS_all (xs ys : List Opr) (h : Opr.ws xs ≤ 1048576) : Fn Tryz.prog [] 117 [.sh 9 (Opr.css xs), .sh 9 (Opr.css ys)] [] (ret [.sc (.bool (eqb xs ys))] []) := by
  unfold Opr.ws at h
  exact eqOprS_ok xs ys (by omega) (fun x hx y hy => eqOpr_all x (by have := Opr.ss_mem hx; omega) y)
theorem eqModu_all (a : Modu) (ha : a.w ≤ 1048576) : ∀ b : Modu, Fn Tryz.prog [] 71 [.agg a.acells, .agg b.acells] [] (ret [.sc (.bool (eqb a b))] []) := by
    intro b
    obtain ⟨a_ops, a_jumps, a_cached⟩ := a
    have ha : Opr.ws a_ops + a_jumps.length ≤ 1048576 := ha
    obtain ⟨b_ops, b_jumps, b_cached⟩ := b
    exact eqModu_ok _ _ (eqOprS_all a_ops b_ops (by omega)) (eqIntS_ok a_jumps b_jumps (by omega))
theorem eqModuS_all (xs ys : List Modu) (h : Modu.ws xs ≤ 1048576) : Fn Tryz.prog [] 38 [.sh 3 (Modu.css xs), .sh 3 (Modu.css ys)] [] (ret [.sc (.bool (eqb xs ys))] []) := by
  unfold Modu.ws at h
  exact eqModuS_ok xs ys (by omega) (fun x hx y hy => eqModu_all x (by have := Modu.ss_mem hx; omega) y)
theorem eqIr_all (a : Ir) (ha : a.w ≤ 1048576) : ∀ b : Ir, Fn Tryz.prog [] 11 [.agg a.acells, .agg b.acells] [] (ret [.sc (.bool (eqb a b))] []) := by
    intro b
    obtain ⟨a_mods⟩ := a
    have ha : Modu.ws a_mods ≤ 1048576 := ha
    obtain ⟨b_mods⟩ := b
    exact eqIr_ok _ _ (eqModuS_all a_mods b_mods (by omega))
end Ev
open Go Ev Go.ChangeShapes Go.WideShapes Go.RowKit Go.Deep
open Go.Proofs
set_option maxRecDepth 100000
set_option maxHeartbeats 4000000
set_option linter.unusedVariables false
namespace Ev
theorem leM {n : Nat} (h : n ≤ maxLen) : n ≤ 9223372036854775807 := Nat.le_trans h (by decide)
theorem Opr.css_map : ∀ l : List Opr, Opr.css l = l.map Opr.cs
  | [] => rfl
  | a :: l => by rw [Opr.css, List.map_cons, Opr.css_map l]
theorem Opr.okl_of : ∀ {l : List Opr}, (∀ a ∈ l, a.ok) → Opr.okl l
  | [], _ => by rw [Opr.okl]; trivial
  | a :: l, h => by rw [Opr.okl]; exact ⟨h a (List.mem_cons_self ..), Opr.okl_of (fun b hb => h b (List.mem_cons_of_mem _ hb))⟩
theorem Modu.css_map : ∀ l : List Modu, Modu.css l = l.map Modu.cs
  | [] => rfl
  | a :: l => by rw [Modu.css, List.map_cons, Modu.css_map l]
theorem Modu.okl_of : ∀ {l : List Modu}, (∀ a ∈ l, a.ok) → Modu.okl l
  | [], _ => by rw [Modu.okl]; trivial
  | a :: l, h => by rw [Modu.okl]; exact ⟨h a (List.mem_cons_self ..), Modu.okl_of (fun b hb => h b (List.mem_cons_of_mem _ hb))⟩
theorem Ir.css_map : ∀ l : List Ir, Ir.css l = l.map Ir.cs
  | [] => rfl
  | a :: l => by rw [Ir.css, List.map_cons, Ir.css_map l]
theorem Ir.okl_of : ∀ {l : List Ir}, (∀ a ∈ l, a.ok) → Ir.okl l
  | [], _ => by rw [Ir.okl]; trivial
  | a :: l, h => by rw [Ir.okl]; exact ⟨h a (List.mem_cons_self ..), Ir.okl_of (fun b hb => h b (List.mem_cons_of_mem _ hb))⟩
set_option maxRecDepth 100000 in
theorem opOpr : ∀ N, OpV Tryz.prog N 163 9 Opr.cs Opr.ok := by
  intro N
  induction N using Nat.strongRecOn with
  | _ N ih =>
    refine opv_as (fun y => (⟨y.1, y.2.1, y.2.2.1, y.2.2.2.1, y.2.2.2.2.1, y.2.2.2.2.2.1, y.2.2.2.2.2.2.1, y.2.2.2.2.2.2.2.1, y.2.2.2.2.2.2.2.2⟩ : Opr)) (fun y hy => ?_) (fun y => ?_) (opv_struct Tryz.underlying163 (by kernel_rfl) (fun M hM => opvf_cons rfl (opv_int Tryz.underlying3 (by kernel_rfl)) rfl (opvf_cons rfl (opv_int Tryz.underlying3 (by kernel_rfl)) rfl (opvf_cons rfl (opv_int Tryz.underlying3 (by kernel_rfl)) rfl (opvf_cons rfl (opv_bool Tryz.underlying4 (by kernel_rfl)) rfl (opvf_cons rfl (opv_int Tryz.underlying3 (by kernel_rfl)) rfl (opvf_cons rfl (opv_slice Tryz.underlying42 (by kernel_rfl) (by decide) (fun M2 hM2 => opv_int Tryz.underlying5 (by kernel_rfl))) rfl (opvf_cons rfl (opv_bool Tryz.underlying4 (by kernel_rfl)) rfl (opvf_cons rfl (opv_int Tryz.underlying3 (by kernel_rfl)) rfl (opvf_last rfl (opv_slice Tryz.underlying94 (by kernel_rfl) (by decide) (fun M2 hM2 => ih M2 (by omega)))))))))))))
    · exact (by rw [Opr.ok]; exact ⟨leM hy.2.2.2.2.2.1.1, ⟨leM hy.2.2.2.2.2.2.2.2.1, Opr.okl_of hy.2.2.2.2.2.2.2.2.2⟩⟩)
    · rw [Opr.cs, Opr.css_map] <;> rfl
set_option maxRecDepth 100000 in
theorem opModu (N : Nat) : OpV Tryz.prog N 96 3 Modu.cs Modu.ok := by
  refine opv_as (fun y => (⟨y.1, y.2.1, y.2.2⟩ : Modu)) (fun y hy => ?_) (fun y => ?_) (opv_struct Tryz.underlying96 (by kernel_rfl) (fun M hM => opvf_cons rfl (opv_slice Tryz.underlying94 (by kernel_rfl) (by decide) (fun M2 hM2 => opOpr M2)) rfl (opvf_cons rfl (opv_slice Tryz.underlying54 (by kernel_rfl) (by decide) (fun M2 hM2 => opv_int Tryz.underlying3 (by kernel_rfl))) rfl (opvf_last rfl (opv_bool Tryz.underlying4 (by kernel_rfl))))))
  · exact ⟨⟨leM hy.1.1, Opr.okl_of hy.1.2⟩, leM hy.2.1.1⟩
  · rw [Modu.cs, Opr.css_map] <;> rfl
set_option maxRecDepth 100000 in
theorem opIr (N : Nat) : OpV Tryz.prog N 24 1 Ir.cs Ir.ok := by
  refine opv_as (fun y => (⟨y⟩ : Ir)) (fun y hy => ?_) (fun y => ?_) (opv_struct Tryz.underlying24 (by kernel_rfl) (fun M hM => opvf_last rfl (opv_slice Tryz.underlying22 (by kernel_rfl) (by decide) (fun M2 hM2 => opModu M2))))
  · exact ⟨leM hy.1, Modu.okl_of hy.2⟩
  · rw [Ir.cs, Modu.css_map] <;> rfl
end Ev
open Go Ev
open Go.Proofs
set_option maxRecDepth 100000
set_option maxHeartbeats 4000000
set_option linter.unusedVariables false
namespace Ev
def inB (n lo hi : Int) : Bool := decide (n ≥ lo) && decide (n ≤ hi)
def numB (n : Int) : Bool := inB n 1 536870911 && !inB n 19000 19999
def wireOf (k : Int) : Int := if k = 1 ∨ k = 2 ∨ k = 3 ∨ k = 4 ∨ k = 5 ∨ k = 6 ∨ k = 7 ∨ k = 17 then 0 else if k = 8 ∨ k = 10 ∨ k = 12 then 5 else if k = 9 ∨ k = 11 ∨ k = 13 then 1 else if k = 14 ∨ k = 15 ∨ k = 16 then 2 else -1
def Opr.plain (a : Opr) : Bool := (a.tag.length == 0) && (!a.quick && ((a.run == 0) && (a.inl.length == 0)))
def Opr.same (a b : Opr) : Bool := (a.num == b.num) && ((a.kind == b.kind) && ((a.ref == b.ref) && ((a.rep == b.rep) && (a.oneof == b.oneof))))
def Opr.block (a : Opr) : Bool := ((wireOf a.kind == 5) || (wireOf a.kind == 1)) && (!a.rep && (a.oneof == 0))
theorem bl {x y : Bool} (h : x = y) : [V.sc (.bool x)] = [V.sc (.bool y)] := by rw [h]
theorem il {x y : Int} (h : x = y) : [V.sc (.int .i64 x)] = [V.sc (.int .i64 y)] := by rw [h]
theorem specIn (n lo hi : Int) : Fn Tryz.prog [] 54 [.sc (.int .i64 n), .sc (.int .i64 lo), .sc (.int .i64 hi)] [] (ret [.sc (.bool (inB n lo hi))] []) := by
  refine fn_of Tryz.func54 (by kernel_rfl) ?_
  conv => whnf
  refine ifP_of (fun h => ?_) (fun h => ?_)
  · conv => whnf
    exact ⟨bl (show decide (n ≤ hi) = _ by unfold inB; rw [h]; rfl), rfl⟩
  · conv => whnf
    exact ⟨bl (show false = _ by unfold inB; rw [h]; rfl), rfl⟩
theorem implIn (n lo hi : Int) : Fn Tryz.prog [] 61 [.sc (.int .i64 n), .sc (.int .i64 lo), .sc (.int .i64 hi)] [] (ret [.sc (.bool (inB n lo hi))] []) := by
  refine fn_of Tryz.func61 (by kernel_rfl) ?_
  conv => whnf
  refine ifP_of (fun h => ?_) (fun h => ?_)
  · conv => whnf
    exact ⟨bl (show decide (n ≤ hi) = _ by unfold inB; rw [h]; rfl), rfl⟩
  · conv => whnf
    exact ⟨bl (show false = _ by unfold inB; rw [h]; rfl), rfl⟩
theorem specNum (n : Int) : Fn Tryz.prog [] 91 [.sc (.int .i64 n)] [] (ret [.sc (.bool (numB n))] []) := by
  refine fn_of Tryz.func91 (by kernel_rfl) ?_
  conv => whnf
  refine Fn.use (specIn n 1 536870911) ?_
  conv => whnf
  refine ⟨trivial, ?_⟩
  conv => whnf
  generalize hc : inB n 1 536870911 = c
  refine ifP_of (fun h => ?_) (fun h => ?_)
  · subst h
    conv => whnf
    refine Fn.use (specIn n 19000 19999) ?_
    conv => whnf
    refine ⟨trivial, ?_⟩
    conv => whnf
    exact ⟨bl (show (!inB n 19000 19999) = _ by unfold numB; rw [hc]; rfl), rfl⟩
  · subst h
    conv => whnf
    exact ⟨bl (show false = _ by unfold numB; rw [hc]; rfl), rfl⟩
theorem implNum (n : Int) : Fn Tryz.prog [] 101 [.sc (.int .i64 n)] [] (ret [.sc (.bool (numB n))] []) := by
  refine fn_of Tryz.func101 (by kernel_rfl) ?_
  conv => whnf
  refine Fn.use (implIn n 1 536870911) ?_
  conv => whnf
  refine ⟨trivial, ?_⟩
  conv => whnf
  generalize hc : inB n 1 536870911 = c
  refine ifP_of (fun h => ?_) (fun h => ?_)
  · subst h
    conv => whnf
    refine Fn.use (implIn n 19000 19999) ?_
    conv => whnf
    refine ⟨trivial, ?_⟩
    conv => whnf
    exact ⟨bl (show (!inB n 19000 19999) = _ by unfold numB; rw [hc]; rfl), rfl⟩
  · subst h
    conv => whnf
    exact ⟨bl (show false = _ by unfold numB; rw [hc]; rfl), rfl⟩
theorem specWire (k : Int) : Fn Tryz.prog [] 95 [.sc (.int .i64 k)] [] (ret [.sc (.int .i64 (wireOf k))] []) := by
  refine fn_of Tryz.func95 (by kernel_rfl) ?_
  conv => whnf
  refine ifP_of (fun h => ?_) (fun h0 => ?_)
  · have h : k = 1 := by simpa using h
    subst h
    conv => whnf
    exact ⟨rfl, rfl⟩
  have h0 : ¬ k = 1 := by simpa using h0
  conv => whnf
  refine ifP_of (fun h => ?_) (fun h1 => ?_)
  · have h : k = 2 := by simpa using h
    subst h
    conv => whnf
    exact ⟨rfl, rfl⟩
  have h1 : ¬ k = 2 := by simpa using h1
  conv => whnf
  refine ifP_of (fun h => ?_) (fun h2 => ?_)
  · have h : k = 3 := by simpa using h
    subst h
    conv => whnf
    exact ⟨rfl, rfl⟩
  have h2 : ¬ k = 3 := by simpa using h2
  conv => whnf
  refine ifP_of (fun h => ?_) (fun h3 => ?_)
  · have h : k = 4 := by simpa using h
    subst h
    conv => whnf
    exact ⟨rfl, rfl⟩
  have h3 : ¬ k = 4 := by simpa using h3
  conv => whnf
  refine ifP_of (fun h => ?_) (fun h4 => ?_)
  · have h : k = 5 := by simpa using h
    subst h
    conv => whnf
    exact ⟨rfl, rfl⟩
  have h4 : ¬ k = 5 := by simpa using h4
  conv => whnf
  refine ifP_of (fun h => ?_) (fun h5 => ?_)
  · have h : k = 6 := by simpa using h
    subst h
    conv => whnf
    exact ⟨rfl, rfl⟩
  have h5 : ¬ k = 6 := by simpa using h5
  conv => whnf
  refine ifP_of (fun h => ?_) (fun h6 => ?_)
  · have h : k = 7 := by simpa using h
    subst h
    conv => whnf
    exact ⟨rfl, rfl⟩
  have h6 : ¬ k = 7 := by simpa using h6
  conv => whnf
  refine ifP_of (fun h => ?_) (fun h7 => ?_)
  · have h : k = 17 := by simpa using h
    subst h
    conv => whnf
    exact ⟨rfl, rfl⟩
  have h7 : ¬ k = 17 := by simpa using h7
  conv => whnf
  refine ifP_of (fun h => ?_) (fun h8 => ?_)
  · have h : k = 8 := by simpa using h
    subst h
    conv => whnf
    exact ⟨rfl, rfl⟩
  have h8 : ¬ k = 8 := by simpa using h8
  conv => whnf
  refine ifP_of (fun h => ?_) (fun h9 => ?_)
  · have h : k = 10 := by simpa using h
    subst h
    conv => whnf
    exact ⟨rfl, rfl⟩
  have h9 : ¬ k = 10 := by simpa using h9
  conv => whnf
  refine ifP_of (fun h => ?_) (fun h10 => ?_)
  · have h : k = 12 := by simpa using h
    subst h
    conv => whnf
    exact ⟨rfl, rfl⟩
  have h10 : ¬ k = 12 := by simpa using h10
  conv => whnf
  refine ifP_of (fun h => ?_) (fun h11 => ?_)
  · have h : k = 9 := by simpa using h
    subst h
    conv => whnf
    exact ⟨rfl, rfl⟩
  have h11 : ¬ k = 9 := by simpa using h11
  conv => whnf
  refine ifP_of (fun h => ?_) (fun h12 => ?_)
  · have h : k = 11 := by simpa using h
    subst h
    conv => whnf
    exact ⟨rfl, rfl⟩
  have h12 : ¬ k = 11 := by simpa using h12
  conv => whnf
  refine ifP_of (fun h => ?_) (fun h13 => ?_)
  · have h : k = 13 := by simpa using h
    subst h
    conv => whnf
    exact ⟨rfl, rfl⟩
  have h13 : ¬ k = 13 := by simpa using h13
  conv => whnf
  refine ifP_of (fun h => ?_) (fun h14 => ?_)
  · have h : k = 14 := by simpa using h
    subst h
    conv => whnf
    exact ⟨rfl, rfl⟩
  have h14 : ¬ k = 14 := by simpa using h14
  conv => whnf
  refine ifP_of (fun h => ?_) (fun h15 => ?_)
  · have h : k = 15 := by simpa using h
    subst h
    conv => whnf
    exact ⟨rfl, rfl⟩
  have h15 : ¬ k = 15 := by simpa using h15
  conv => whnf
  refine ifP_of (fun h => ?_) (fun h16 => ?_)
  · have h : k = 16 := by simpa using h
    subst h
    conv => whnf
    exact ⟨rfl, rfl⟩
  have h16 : ¬ k = 16 := by simpa using h16
  conv => whnf
  exact ⟨il (show (-1 : Int) = wireOf k by unfold wireOf; simp only [h0, h1, h2, h3, h4, h5, h6, h7, h8, h9, h10, h11, h12, h13, h14, h15, h16, or_self, if_false]), rfl⟩
theorem implWire (k : Int) : Fn Tryz.prog [] 108 [.sc (.int .i64 k)] [] (ret [.sc (.int .i64 (wireOf k))] []) := by
  refine fn_of Tryz.func108 (by kernel_rfl) ?_
  conv => whnf
  refine ifP_of (fun h => ?_) (fun h0 => ?_)
  · have h : k = 1 := by simpa using h
    subst h
    conv => whnf
    exact ⟨rfl, rfl⟩
  have h0 : ¬ k = 1 := by simpa using h0
  conv => whnf
  refine ifP_of (fun h => ?_) (fun h1 => ?_)
  · have h : k = 2 := by simpa using h
    subst h
    conv => whnf
    exact ⟨rfl, rfl⟩
  have h1 : ¬ k = 2 := by simpa using h1
  conv => whnf
  refine ifP_of (fun h => ?_) (fun h2 => ?_)
  · have h : k = 3 := by simpa using h
    subst h
    conv => whnf
    exact ⟨rfl, rfl⟩
  have h2 : ¬ k = 3 := by simpa using h2
  conv => whnf
  refine ifP_of (fun h => ?_) (fun h3 => ?_)
  · have h : k = 4 := by simpa using h
    subst h
    conv => whnf
    exact ⟨rfl, rfl⟩
  have h3 : ¬ k = 4 := by simpa using h3
  conv => whnf
  refine ifP_of (fun h => ?_) (fun h4 => ?_)
  · have h : k = 5 := by simpa using h
    subst h
    conv => whnf
    exact ⟨rfl, rfl⟩
  have h4 : ¬ k = 5 := by simpa using h4
  conv => whnf
  refine ifP_of (fun h => ?_) (fun h5 => ?_)
  · have h : k = 6 := by simpa using h
    subst h
    conv => whnf
    exact ⟨rfl, rfl⟩
  have h5 : ¬ k = 6 := by simpa using h5
  conv => whnf
  refine ifP_of (fun h => ?_) (fun h6 => ?_)
  · have h : k = 7 := by simpa using h
    subst h
    conv => whnf
    exact ⟨rfl, rfl⟩
  have h6 : ¬ k = 7 := by simpa using h6
  conv => whnf
  refine ifP_of (fun h => ?_) (fun h7 => ?_)
  · have h : k = 17 := by simpa using h
    subst h
    conv => whnf
    exact ⟨rfl, rfl⟩
  have h7 : ¬ k = 17 := by simpa using h7
  conv => whnf
  refine ifP_of (fun h => ?_) (fun h8 => ?_)
  · have h : k = 8 := by simpa using h
    subst h
    conv => whnf
    exact ⟨rfl, rfl⟩
  have h8 : ¬ k = 8 := by simpa using h8
  conv => whnf
  refine ifP_of (fun h => ?_) (fun h9 => ?_)
  · have h : k = 10 := by simpa using h
    subst h
    conv => whnf
    exact ⟨rfl, rfl⟩
  have h9 : ¬ k = 10 := by simpa using h9
  conv => whnf
  refine ifP_of (fun h => ?_) (fun h10 => ?_)
  · have h : k = 12 := by simpa using h
    subst h
    conv => whnf
    exact ⟨rfl, rfl⟩
  have h10 : ¬ k = 12 := by simpa using h10
  conv => whnf
  refine ifP_of (fun h => ?_) (fun h11 => ?_)
  · have h : k = 9 := by simpa using h
    subst h
    conv => whnf
    exact ⟨rfl, rfl⟩
  have h11 : ¬ k = 9 := by simpa using h11
  conv => whnf
  refine ifP_of (fun h => ?_) (fun h12 => ?_)
  · have h : k = 11 := by simpa using h
    subst h
    conv => whnf
    exact ⟨rfl, rfl⟩
  have h12 : ¬ k = 11 := by simpa using h12
  conv => whnf
  refine ifP_of (fun h => ?_) (fun h13 => ?_)
  · have h : k = 13 := by simpa using h
    subst h
    conv => whnf
    exact ⟨rfl, rfl⟩
  have h13 : ¬ k = 13 := by simpa using h13
  conv => whnf
  refine ifP_of (fun h => ?_) (fun h14 => ?_)
  · have h : k = 14 := by simpa using h
    subst h
    conv => whnf
    exact ⟨rfl, rfl⟩
  have h14 : ¬ k = 14 := by simpa using h14
  conv => whnf
  refine ifP_of (fun h => ?_) (fun h15 => ?_)
  · have h : k = 15 := by simpa using h
    subst h
    conv => whnf
    exact ⟨rfl, rfl⟩
  have h15 : ¬ k = 15 := by simpa using h15
  conv => whnf
  refine ifP_of (fun h => ?_) (fun h16 => ?_)
  · have h : k = 16 := by simpa using h
    subst h
    conv => whnf
    exact ⟨rfl, rfl⟩
  have h16 : ¬ k = 16 := by simpa using h16
  conv => whnf
  exact ⟨il (show (-1 : Int) = wireOf k by unfold wireOf; simp only [h0, h1, h2, h3, h4, h5, h6, h7, h8, h9, h10, h11, h12, h13, h14, h15, h16, or_self, if_false]), rfl⟩
theorem specPlain (a : Opr) : Fn Tryz.prog [] 139 [.agg a.acells] [] (ret [.sc (.bool a.plain)] []) := by
  obtain ⟨x1, x2, x3, x4, x5, x6, x7, x8, x9⟩ := a
  have l6 := byteC_len x6
  have l9 := Opr.css_len x9
  show Fn _ _ _ _ _ (ret [.sc (.bool ((x6.length == 0) && (!x7 && ((x8 == 0) && (x9.length == 0)))))] [])
  refine fn_of Tryz.func139 (by kernel_rfl) ?_
  conv => whnf
  rw [l6]
  have e6 : ((x6.length : Int) == 0) = (x6.length == 0) := by rw [Bool.eq_iff_iff]; simp
  have e9 : ((x9.length : Int) == 0) = (x9.length == 0) := by rw [Bool.eq_iff_iff]; simp
  refine ifP_of (fun h => ?_) (fun h => ?_)
  · have h : (x6.length == 0) = true := e6 ▸ h
    rw [h]
    conv => whnf
    refine ifP_of (fun h => ?_) (fun h => ?_)
    · have h : (!x7) = true := h
      rw [h]
      conv => whnf
      refine ifP_of (fun h => ?_) (fun h => ?_)
      · have h : (x8 == 0) = true := h
        rw [h]
        conv => whnf
        exact ⟨bl (show (((Opr.css x9).length : Int) == 0) = (x9.length == 0) by rw [l9, e9]), rfl⟩
      · have h : (x8 == 0) = false := h
        rw [h]
        conv => whnf
        exact ⟨rfl, rfl⟩
    · have h : (!x7) = false := h
      rw [h]
      conv => whnf
      exact ⟨rfl, rfl⟩
  · have h : (x6.length == 0) = false := e6 ▸ h
    rw [h]
    conv => whnf
    exact ⟨rfl, rfl⟩
theorem implPlain (a : Opr) : Fn Tryz.prog [] 112 [.agg a.acells] [] (ret [.sc (.bool a.plain)] []) := by
  obtain ⟨x1, x2, x3, x4, x5, x6, x7, x8, x9⟩ := a
  have l6 := byteC_len x6
  have l9 := Opr.css_len x9
  show Fn _ _ _ _ _ (ret [.sc (.bool ((x6.length == 0) && (!x7 && ((x8 == 0) && (x9.length == 0)))))] [])
  refine fn_of Tryz.func112 (by kernel_rfl) ?_
  conv => whnf
  rw [l6]
  have e6 : ((x6.length : Int) == 0) = (x6.length == 0) := by rw [Bool.eq_iff_iff]; simp
  have e9 : ((x9.length : Int) == 0) = (x9.length == 0) := by rw [Bool.eq_iff_iff]; simp
  refine ifP_of (fun h => ?_) (fun h => ?_)
  · have h : (x6.length == 0) = true := e6 ▸ h
    rw [h]
    conv => whnf
    refine ifP_of (fun h => ?_) (fun h => ?_)
    · have h : (!x7) = true := h
      rw [h]
      conv => whnf
      refine ifP_of (fun h => ?_) (fun h => ?_)
      · have h : (x8 == 0) = true := h
        rw [h]
        conv => whnf
        exact ⟨bl (show (((Opr.css x9).length : Int) == 0) = (x9.length == 0) by rw [l9, e9]), rfl⟩
      · have h : (x8 == 0) = false := h
        rw [h]
        conv => whnf
        exact ⟨rfl, rfl⟩
    · have h : (!x7) = false := h
      rw [h]
      conv => whnf
      exact ⟨rfl, rfl⟩
  · have h : (x6.length == 0) = false := e6 ▸ h
    rw [h]
    conv => whnf
    exact ⟨rfl, rfl⟩
theorem specSame (a b : Opr) : Fn Tryz.prog [] 140 [.agg a.acells, .agg b.acells] [] (ret [.sc (.bool (a.same b))] []) := by
  obtain ⟨x1, x2, x3, x4, x5, x6, x7, x8, x9⟩ := a
  obtain ⟨y1, y2, y3, y4, y5, y6, y7, y8, y9⟩ := b
  show Fn _ _ _ _ _ (ret [.sc (.bool ((x1 == y1) && ((x2 == y2) && ((x3 == y3) && ((x4 == y4) && (x5 == y5))))))] [])
  refine fn_of Tryz.func140 (by kernel_rfl) ?_
  conv => whnf
  refine ifP_of (fun h => ?_) (fun h => ?_)
  case refine_2 =>
    have h : (x1 == y1) = false := h
    rw [h]
    conv => whnf
    exact ⟨rfl, rfl⟩
  have h : (x1 == y1) = true := h
  rw [h]
  conv => whnf
  refine ifP_of (fun h => ?_) (fun h => ?_)
  case refine_2 =>
    have h : (x2 == y2) = false := h
    rw [h]
    conv => whnf
    exact ⟨rfl, rfl⟩
  have h : (x2 == y2) = true := h
  rw [h]
  conv => whnf
  refine ifP_of (fun h => ?_) (fun h => ?_)
  case refine_2 =>
    have h : (x3 == y3) = false := h
    rw [h]
    conv => whnf
    exact ⟨rfl, rfl⟩
  have h : (x3 == y3) = true := h
  rw [h]
  conv => whnf
  refine ifP_of (fun h => ?_) (fun h => ?_)
  case refine_2 =>
    have h : (x4 == y4) = false := h
    rw [h]
    conv => whnf
    exact ⟨rfl, rfl⟩
  have h : (x4 == y4) = true := h
  rw [h]
  conv => whnf
  exact ⟨rfl, rfl⟩
theorem implSame (a b : Opr) : Fn Tryz.prog [] 113 [.agg a.acells, .agg b.acells] [] (ret [.sc (.bool (a.same b))] []) := by
  obtain ⟨x1, x2, x3, x4, x5, x6, x7, x8, x9⟩ := a
  obtain ⟨y1, y2, y3, y4, y5, y6, y7, y8, y9⟩ := b
  show Fn _ _ _ _ _ (ret [.sc (.bool ((x1 == y1) && ((x2 == y2) && ((x3 == y3) && ((x4 == y4) && (x5 == y5))))))] [])
  refine fn_of Tryz.func113 (by kernel_rfl) ?_
  conv => whnf
  refine ifP_of (fun h => ?_) (fun h => ?_)
  case refine_2 =>
    have h : (x1 == y1) = false := h
    rw [h]
    conv => whnf
    exact ⟨rfl, rfl⟩
  have h : (x1 == y1) = true := h
  rw [h]
  conv => whnf
  refine ifP_of (fun h => ?_) (fun h => ?_)
  case refine_2 =>
    have h : (x2 == y2) = false := h
    rw [h]
    conv => whnf
    exact ⟨rfl, rfl⟩
  have h : (x2 == y2) = true := h
  rw [h]
  conv => whnf
  refine ifP_of (fun h => ?_) (fun h => ?_)
  case refine_2 =>
    have h : (x3 == y3) = false := h
    rw [h]
    conv => whnf
    exact ⟨rfl, rfl⟩
  have h : (x3 == y3) = true := h
  rw [h]
  conv => whnf
  refine ifP_of (fun h => ?_) (fun h => ?_)
  case refine_2 =>
    have h : (x4 == y4) = false := h
    rw [h]
    conv => whnf
    exact ⟨rfl, rfl⟩
  have h : (x4 == y4) = true := h
  rw [h]
  conv => whnf
  exact ⟨rfl, rfl⟩
theorem specBlock (a : Opr) : Fn Tryz.prog [] 97 [.agg a.acells] [] (ret [.sc (.bool a.block)] []) := by
  obtain ⟨x1, x2, x3, x4, x5, x6, x7, x8, x9⟩ := a
  show Fn _ _ _ _ _ (ret [.sc (.bool (((wireOf x2 == 5) || (wireOf x2 == 1)) && (!x4 && (x5 == 0))))] [])
  refine fn_of Tryz.func97 (by kernel_rfl) ?_
  conv => whnf
  refine Fn.use (specWire x2) ?_
  conv => whnf
  refine ⟨trivial, ?_⟩
  conv => whnf
  generalize wireOf x2 = v
  refine ifP_of (fun h => ?_) (fun h => ?_)
  · have h : (v == 5) = true := h
    rw [h]
    conv => whnf
    refine ifP_of (fun h => ?_) (fun h => ?_)
    · have h : (!x4) = true := h
      rw [h]
      conv => whnf
      exact ⟨rfl, rfl⟩
    · have h : (!x4) = false := h
      rw [h]
      conv => whnf
      exact ⟨rfl, rfl⟩
  · have h : (v == 5) = false := h
    rw [h]
    conv => whnf
    refine ifP_of (fun h => ?_) (fun h => ?_)
    · have h : (v == 1) = true := h
      rw [h]
      conv => whnf
      refine ifP_of (fun h => ?_) (fun h => ?_)
      · have h : (!x4) = true := h
        rw [h]
        conv => whnf
        exact ⟨rfl, rfl⟩
      · have h : (!x4) = false := h
        rw [h]
        conv => whnf
        exact ⟨rfl, rfl⟩
    · have h : (v == 1) = false := h
      rw [h]
      conv => whnf
      exact ⟨rfl, rfl⟩
theorem implBlock (a : Opr) : Fn Tryz.prog [] 109 [.agg a.acells] [] (ret [.sc (.bool a.block)] []) := by
  obtain ⟨x1, x2, x3, x4, x5, x6, x7, x8, x9⟩ := a
  show Fn _ _ _ _ _ (ret [.sc (.bool (((wireOf x2 == 5) || (wireOf x2 == 1)) && (!x4 && (x5 == 0))))] [])
  refine fn_of Tryz.func109 (by kernel_rfl) ?_
  conv => whnf
  refine Fn.use (implWire x2) ?_
  conv => whnf
  refine ⟨trivial, ?_⟩
  conv => whnf
  generalize wireOf x2 = v
  refine ifP_of (fun h => ?_) (fun h => ?_)
  · have h : (v == 5) = true := h
    rw [h]
    conv => whnf
    refine ifP_of (fun h => ?_) (fun h => ?_)
    · have h : (!x4) = true := h
      rw [h]
      conv => whnf
      exact ⟨rfl, rfl⟩
    · have h : (!x4) = false := h
      rw [h]
      conv => whnf
      exact ⟨rfl, rfl⟩
  · have h : (v == 5) = false := h
    rw [h]
    conv => whnf
    refine ifP_of (fun h => ?_) (fun h => ?_)
    · have h : (v == 1) = true := h
      rw [h]
      conv => whnf
      refine ifP_of (fun h => ?_) (fun h => ?_)
      · have h : (!x4) = true := h
        rw [h]
        conv => whnf
        exact ⟨rfl, rfl⟩
      · have h : (!x4) = false := h
        rw [h]
        conv => whnf
        exact ⟨rfl, rfl⟩
    · have h : (v == 1) = false := h
      rw [h]
      conv => whnf
      exact ⟨rfl, rfl⟩
end Ev
open Go Ev
open Go.Proofs
set_option maxRecDepth 100000
set_option maxHeartbeats 4000000
set_option linter.unusedVariables false
namespace Ev
/-- The bytes of a varint. -/
def vb (u : Nat) : List Int := if u < 128 then [(u : Int)] else ((u % 128 + 128 : Nat) : Int) :: vb (u / 128)
termination_by u
decreasing_by omega
theorem oneB (b : Int) : OneEs true false [[.sc (.int .u8 b)]] := fun e he v hv => by
  obtain rfl := List.mem_singleton.1 he
  obtain rfl := List.mem_singleton.1 hv
  rfl
theorem byteC_snoc (l : List Int) (b : Int) : byteC l ++ [[.sc (.int .u8 b)]] = byteC (l ++ [b]) := by unfold byteC; rw [List.map_append]; rfl
theorem wrapU {n : Nat} (h : n < 18446744073709551616) : IntKind.u64.wrap (n : Int) = n := by
  show ((n : Int) % 18446744073709551616) = n
  omega
theorem u8k {n : Nat} (h : n < 256) : IntKind.u8.wrap (n : Int) = n := by
  show ((n : Int) % 256) = n
  omega
theorem tm128 (u : Nat) : ((u : Int).tmod 128) = ((u % 128 : Nat) : Int) := by rw [Int.tmod_eq_emod_of_nonneg (by omega)]; omega
theorem td128 (u : Nat) : ((u : Int).tdiv 128) = ((u / 128 : Nat) : Int) := by rw [Int.tdiv_eq_ediv_of_nonneg (by omega)]; omega
theorem spec_b {u : Nat} : IntKind.u8.wrap (IntKind.u64.wrap ((u : Int).tmod 128 + 128)) = ((u % 128 + 128 : Nat) : Int) := by
  rw [tm128, show (((u % 128 : Nat) : Int) + 128) = ((u % 128 + 128 : Nat) : Int) by omega, wrapU (by omega), u8k (by omega)]
theorem spec_q {u : Nat} (h : u < 18446744073709551616) : IntKind.u64.wrap ((u : Int).tdiv 128) = ((u / 128 : Nat) : Int) := by
  rw [td128, wrapU (by omega)]
theorem vb_last {u : Nat} (h : u < 128) : vb u = [(u : Int)] := by rw [vb, if_pos h]
theorem vb_more {u : Nat} (h : 128 ≤ u) : vb u = ((u % 128 + 128 : Nat) : Int) :: vb (u / 128) := by rw [vb, if_neg (by omega)]
theorem rowLe {l : List Int} {n : Nat} {k : Nat} (h : l.length ≤ n) (hn : n < 1099511627776) (hk : k = 1) : ((byteC l).length + k) * 1 ≤ 140737488355328 := by rw [byteC_len, hk]; omega
theorem specPutVarint (n : Nat) (hn : n < 1099511627776) : Fn Tryz.prog [] 127 [.sc (.int .i64 n)] [] (ret [.own true 1 (byteC (vb n))] []) := by
  refine fn_of Tryz.func127 (by kernel_rfl) ?_
  conv => whnf
  refine loop_of (A := List Int × Nat) (fun x => ⟨[(3, .sc (.int .u64 x.2)), (4, .hdr 0 [])], [(0, some ⟨byteC x.1, true, 1, false⟩)], 1, 24, 0⟩) (fun x => x.2) (fun x => x.1.length + x.2 ≤ n ∧ x.1 ++ vb x.2 = vb n) ([], n) ?_ ⟨by simp, by simp⟩ ?_
  · rw [wrapU (by omega)]; rfl
  intro ⟨out, u⟩ ⟨h1, h2⟩ X ih
  dsimp only at h1 h2
  conv => whnf
  refine ifP_of (fun h => ?_) (fun h => ?_)
  · have hu : 128 ≤ u := by have := of_decide_eq_true h; dsimp only at this; omega
    conv => whnf
    refine ⟨oneB _, ?_⟩
    conv => whnf
    refine chkP_of (decide_eq_true (rowLe (l := out) (n := n) (by omega) hn rfl)) ?_
    conv => whnf
    have h5 := ih (out ++ [((u % 128 + 128 : Nat) : Int)], u / 128) ⟨by simp; omega, by dsimp only; rw [← h2, vb_more hu, List.append_assoc]; rfl⟩ (by dsimp only; omega)
    dsimp only at h5
    rw [← byteC_snoc, ← spec_q (u := u) (by omega), ← spec_b] at h5
    exact h5
  · have hu : u < 128 := by have := of_decide_eq_false h; dsimp only at this; omega
    conv => whnf
    refine ⟨oneB _, ?_⟩
    conv => whnf
    refine chkP_of (decide_eq_true (rowLe (l := out) (n := n) (by omega) hn rfl)) ?_
    conv => whnf
    refine ⟨?_, rfl⟩
    rw [vb_last hu] at h2
    show [V.own true 1 (byteC out ++ [[V.sc (.int .u8 (IntKind.u8.wrap (u : Int)))]])] = _
    rw [u8k (by omega), byteC_snoc, h2]

theorem or128 {u : Nat} : IntKind.u8.wrap (BitVec.ofInt IntKind.u8.bits (IntKind.u8.wrap (u : Int)) ||| BitVec.ofInt IntKind.u8.bits 128).toNat = ((u % 128 + 128 : Nat) : Int) := by
  have e : IntKind.u8.wrap (u : Int) = ((u % 256 : Nat) : Int) := by show ((u : Int) % 256) = _; omega
  rw [e]
  have key : ∀ x : Fin 256, IntKind.u8.wrap (BitVec.ofInt IntKind.u8.bits ((x.val : Nat) : Int) ||| BitVec.ofInt IntKind.u8.bits 128).toNat = ((x.val % 128 + 128 : Nat) : Int) := by decide +kernel
  have := key ⟨u % 256, by omega⟩
  dsimp only at this
  rw [this]; omega
theorem impl_q {u : Nat} (h : u < 18446744073709551616) : (u : Int).fdiv (2 ^ (min (7 : Int).toNat IntKind.u64.bits)) = ((u / 128 : Nat) : Int) := by
  show (u : Int).fdiv 128 = _
  rw [Int.fdiv_eq_ediv_of_nonneg _ (by omega)]; omega
/-- The bytes so far, as a slice that may be nil. -/
def outS (l : List Int) (u : Nat) : St := match l with
  | [] => ⟨[(3, .sc (.slice none 0 0)), (4, .sc (.int .u64 u))], [], 0, 22, 0⟩
  | a :: l => ⟨[(3, .hdr 0 []), (4, .sc (.int .u64 u))], [(0, some ⟨byteC (a :: l), true, 1, false⟩)], 1, 22, 0⟩
theorem implPutVarint (n : Nat) (hn : n < 1099511627776) : Fn Tryz.prog [] 135 [.sc (.int .i64 n)] [] (ret [.own true 1 (byteC (vb n))] []) := by
  refine fn_of Tryz.func135 (by kernel_rfl) ?_
  conv => whnf
  refine loop_of (A := List Int × Nat) (fun x => outS x.1 x.2) (fun x => x.2) (fun x => x.1.length + x.2 ≤ n ∧ x.1 ++ vb x.2 = vb n) ([], n) ?_ ⟨by simp, by simp⟩ ?_
  · rw [wrapU (by omega)]; rfl
  intro ⟨out, u⟩ ⟨h1, h2⟩ X ih
  dsimp only at h1 h2
  have more : 128 ≤ u → X (outS (out ++ [((u % 128 + 128 : Nat) : Int)]) (u / 128)) := fun hu => ih (out ++ [((u % 128 + 128 : Nat) : Int)], u / 128) ⟨by simp; omega, by dsimp only; rw [← h2, vb_more hu, List.append_assoc]; rfl⟩ (by dsimp only; omega)
  cases out with
  | nil =>
    conv => whnf
    refine ifP_of (fun h => ?_) (fun h => ?_)
    · have hu : 128 ≤ u := by have := of_decide_eq_true h; dsimp only at this; omega
      conv => whnf
      refine ⟨oneB _, ?_⟩
      conv => whnf
      have h5 := more hu
      have e : outS ([] ++ [((u % 128 + 128 : Nat) : Int)]) (u / 128) = ⟨[(3, .hdr 0 []), (4, .sc (.int .u64 (u / 128 : Nat)))], [(0, some ⟨byteC ([] ++ [((u % 128 + 128 : Nat) : Int)]), true, 1, false⟩)], 1, 22, 0⟩ := rfl
      rw [e, ← byteC_snoc, ← impl_q (u := u) (by omega), ← or128] at h5
      exact h5
    · have hu : u < 128 := by have := of_decide_eq_false h; dsimp only at this; omega
      conv => whnf
      refine ⟨oneB _, ?_⟩
      conv => whnf
      refine ⟨?_, rfl⟩
      rw [vb_last hu] at h2
      show [V.own true 1 (byteC [] ++ [[V.sc (.int .u8 (IntKind.u8.wrap (u : Int)))]])] = _
      rw [u8k (by omega), byteC_snoc, h2]
  | cons a l =>
    conv => whnf
    refine ifP_of (fun h => ?_) (fun h => ?_)
    · have hu : 128 ≤ u := by have := of_decide_eq_true h; dsimp only at this; omega
      conv => whnf
      refine ⟨oneB _, ?_⟩
      conv => whnf
      refine chkP_of (decide_eq_true (rowLe (l := a :: l) (n := n) (by omega) hn rfl)) ?_
      conv => whnf
      have h5 := more hu
      have e : outS ((a :: l) ++ [((u % 128 + 128 : Nat) : Int)]) (u / 128) = ⟨[(3, .hdr 0 []), (4, .sc (.int .u64 (u / 128 : Nat)))], [(0, some ⟨byteC ((a :: l) ++ [((u % 128 + 128 : Nat) : Int)]), true, 1, false⟩)], 1, 22, 0⟩ := rfl
      rw [e, ← byteC_snoc, ← impl_q (u := u) (by omega), ← or128] at h5
      exact h5
    · have hu : u < 128 := by have := of_decide_eq_false h; dsimp only at this; omega
      conv => whnf
      refine ⟨oneB _, ?_⟩
      conv => whnf
      refine chkP_of (decide_eq_true (rowLe (l := a :: l) (n := n) (by omega) hn rfl)) ?_
      conv => whnf
      refine ⟨?_, rfl⟩
      rw [vb_last hu] at h2
      show [V.own true 1 (byteC (a :: l) ++ [[V.sc (.int .u8 (IntKind.u8.wrap (u : Int)))]])] = _
      rw [u8k (by omega), byteC_snoc, h2]
end Ev
open Go Ev
open Go.Proofs
set_option maxRecDepth 100000
set_option maxHeartbeats 4000000
set_option linter.unusedVariables false
namespace Ev
def wireB (w : Int) : Bool := (w == 0) || ((w == 1) || ((w == 2) || (w == 5)))
def tagB (num wire : Int) : List Int := if (inB num 1 536870911 && wireB wire) = true then vb (num * 8 + wire).toNat else []
theorem inB_iff {n lo hi : Int} : inB n lo hi = true ↔ lo ≤ n ∧ n ≤ hi := by unfold inB; simp
theorem wireB_le {w : Int} (h : wireB w = true) : 0 ≤ w ∧ w ≤ 5 := by unfold wireB at h; simp at h; omega
theorem specWireB (w : Int) : Fn Tryz.prog [] 138 [.sc (.int .i64 w)] [] (ret [.sc (.bool (wireB w))] []) := by
  refine fn_of Tryz.func138 (by kernel_rfl) ?_
  unfold wireB
  conv => whnf
  refine ifP_of (fun h => ?_) (fun h => ?_)
  · have h : (w == 0) = true := h
    rw [h]
    conv => whnf
    exact ⟨rfl, rfl⟩
  have h : (w == 0) = false := h
  rw [h]
  conv => whnf
  refine ifP_of (fun h => ?_) (fun h => ?_)
  · have h : (w == 1) = true := h
    rw [h]
    conv => whnf
    exact ⟨rfl, rfl⟩
  have h : (w == 1) = false := h
  rw [h]
  conv => whnf
  refine ifP_of (fun h => ?_) (fun h => ?_)
  · have h : (w == 2) = true := h
    rw [h]
    conv => whnf
    exact ⟨rfl, rfl⟩
  have h : (w == 2) = false := h
  rw [h]
  conv => whnf
  exact ⟨rfl, rfl⟩
theorem tag_sum {num wire : Int} (h : (inB num 1 536870911 && wireB wire) = true) : ∃ n : Nat, n < 1099511627776 ∧ IntKind.i64.wrap (IntKind.i64.wrap (num * 8) + wire) = n ∧ IntKind.i64.wrap (IntKind.i64.wrap (8 * num) + wire) = n ∧ tagB num wire = vb n := by
  have h0 := h
  rw [Bool.and_eq_true] at h
  obtain ⟨h1, h2⟩ := h
  obtain ⟨a1, a2⟩ := inB_iff.1 h1
  obtain ⟨b1, b2⟩ := wireB_le h2
  refine ⟨(num * 8 + wire).toNat, by omega, ?_, ?_, by unfold tagB; rw [if_pos h0]⟩
  · rw [wrap64 (n := num * 8) (by omega) (by omega), wrap64 (by omega) (by omega)]; omega
  · rw [wrap64 (n := 8 * num) (by omega) (by omega), wrap64 (by omega) (by omega)]; omega
theorem tag_no {num wire : Int} (h : ¬ (inB num 1 536870911 && wireB wire) = true) : [V.own true 1 []] = [V.own true 1 (byteC (tagB num wire))] := by unfold tagB; rw [if_neg h]; rfl
theorem specPutTag (num wire : Int) : Fn Tryz.prog [] 93 [.sc (.int .i64 num), .sc (.int .i64 wire)] [] (ret [.own true 1 (byteC (tagB num wire))] []) := by
  refine fn_of Tryz.func93 (by kernel_rfl) ?_
  conv => whnf
  refine Fn.use (specIn num 1 536870911) ?_
  conv => whnf
  refine ⟨trivial, ?_⟩
  conv => whnf
  generalize hc : inB num 1 536870911 = c
  refine ifP_of (fun h => ?_) (fun h => ?_)
  · have h : c = false := by simpa using h
    subst h
    conv => whnf
    exact ⟨tag_no (by rw [hc]; simp), rfl⟩
  · have h : c = true := by simpa using h
    subst h
    conv => whnf
    refine Fn.use (specWireB wire) ?_
    conv => whnf
    refine ⟨trivial, ?_⟩
    conv => whnf
    generalize hd : wireB wire = d
    refine ifP_of (fun h => ?_) (fun h => ?_)
    · have h : d = false := by simpa using h
      subst h
      conv => whnf
      exact ⟨tag_no (by rw [hd]; simp), rfl⟩
    · have h : d = true := by simpa using h
      subst h
      obtain ⟨n, n1, n2, _, n4⟩ := tag_sum (num := num) (wire := wire) (by rw [hc, hd]; rfl)
      rw [n4]
      conv => whnf
      rw [n2]
      refine Fn.use (specPutVarint n n1) ?_
      conv => whnf
      refine ⟨trivial, ?_⟩
      conv => whnf
      exact ⟨rfl, rfl⟩
theorem implPutTag (num wire : Int) : Fn Tryz.prog [] 134 [.sc (.int .i64 num), .sc (.int .i64 wire)] [] (ret [.own true 1 (byteC (tagB num wire))] []) := by
  refine fn_of Tryz.func134 (by kernel_rfl) ?_
  conv => whnf
  refine Fn.use (implIn num 1 536870911) ?_
  conv => whnf
  refine ⟨trivial, ?_⟩
  conv => whnf
  generalize hc : inB num 1 536870911 = c
  have good : c = true → wireB wire = true → ∃ n : Nat, n < 1099511627776 ∧ IntKind.i64.wrap (IntKind.i64.wrap (8 * num) + wire) = n ∧ tagB num wire = vb n := fun h1 h2 => by
    obtain ⟨n, n1, _, n3, n4⟩ := tag_sum (num := num) (wire := wire) (by rw [hc, h1, h2]; rfl)
    exact ⟨n, n1, n3, n4⟩
  have fin : ∀ {n : Nat}, n < 1099511627776 → tagB num wire = vb n → Fn Tryz.prog [] 135 [.sc (.int .i64 n)] [] (ret [.own true 1 (byteC (tagB num wire))] []) := fun h1 h2 => by rw [h2]; exact implPutVarint _ h1
  refine ifP_of (fun h => ?_) (fun h => ?_)
  · have h : c = false := by simpa using h
    subst h
    conv => whnf
    exact ⟨tag_no (by rw [hc]; simp), rfl⟩
  · have h : c = true := by simpa using h
    subst h
    conv => whnf
    refine ifP_of (fun h0 => ?_) (fun h0 => ?_)
    case refine_2 =>
      have h0 : wire = 0 := by simpa using h0
      obtain ⟨n, n1, n3, n4⟩ := good rfl (by rw [h0]; rfl)
      conv => whnf
      rw [n3]
      refine Fn.use (fin n1 n4) ?_
      conv => whnf
      refine ⟨trivial, ?_⟩
      conv => whnf
      exact ⟨rfl, rfl⟩
    have h0 : ¬ wire = 0 := by simpa using h0
    conv => whnf
    refine ifP_of (fun h1 => ?_) (fun h1 => ?_)
    case refine_2 =>
      have h1 : wire = 1 := by simpa using h1
      obtain ⟨n, n1, n3, n4⟩ := good rfl (by rw [h1]; rfl)
      conv => whnf
      rw [n3]
      refine Fn.use (fin n1 n4) ?_
      conv => whnf
      refine ⟨trivial, ?_⟩
      conv => whnf
      exact ⟨rfl, rfl⟩
    have h1 : ¬ wire = 1 := by simpa using h1
    conv => whnf
    refine ifP_of (fun h2 => ?_) (fun h2 => ?_)
    case refine_2 =>
      have h2 : wire = 2 := by simpa using h2
      obtain ⟨n, n1, n3, n4⟩ := good rfl (by rw [h2]; rfl)
      conv => whnf
      rw [n3]
      refine Fn.use (fin n1 n4) ?_
      conv => whnf
      refine ⟨trivial, ?_⟩
      conv => whnf
      exact ⟨rfl, rfl⟩
    have h2 : ¬ wire = 2 := by simpa using h2
    conv => whnf
    refine ifP_of (fun h3 => ?_) (fun h3 => ?_)
    case refine_2 =>
      have h3 : wire = 5 := by simpa using h3
      obtain ⟨n, n1, n3, n4⟩ := good rfl (by rw [h3]; rfl)
      conv => whnf
      rw [n3]
      refine Fn.use (fin n1 n4) ?_
      conv => whnf
      refine ⟨trivial, ?_⟩
      conv => whnf
      exact ⟨rfl, rfl⟩
    have h3 : ¬ wire = 5 := by simpa using h3
    conv => whnf
    exact ⟨tag_no (by rw [hc]; unfold wireB; simp [h0, h1, h2, h3]), rfl⟩
end Ev
open Go Ev
open Go.Proofs
set_option maxRecDepth 100000
set_option maxHeartbeats 4000000
set_option linter.unusedVariables false
namespace Ev
theorem equalByte_ok (xs ys : List Int) (hb : xs.length ≤ 1048576) : Fn Tryz.prog [] 106 [.sh 1 (byteC xs), .sh 1 (byteC ys)] [] (ret [.sc (.bool (eqb xs ys))] []) := by
  refine fn_of Tryz.func106 (by kernel_rfl) ?_
  have hlx := byteC_len xs
  have hly := byteC_len ys
  conv => whnf
  rw [hlx, hly]
  refine ifP_of (fun h => ?_) (fun h => ?_)
  · have hne : ¬ xs = ys := fun e => by rw [e] at h; simp at h
    conv => whnf
    exact ⟨congrArg (fun x : Bool => [V.sc (.bool x)]) (eqb_no hne).symm, rfl⟩
  · have hlen : xs.length = ys.length := by
      simp only [bne_eq_false_iff_eq] at h; omega
    conv => whnf
    try rw [hlx]
    refine loop_of (A := Nat) (fun i => ⟨[(0, .sh 1 (byteC xs)), (1, .sh 1 (byteC ys)), (12, .sc (.int .i64 xs.length)), (13, .sc (.int .i64 i))], [], 0, 26, 0⟩) (fun i => xs.length - i) (fun i => i ≤ xs.length ∧ eqb (xs.drop i) (ys.drop i) = eqb xs ys) 0 rfl ⟨Nat.zero_le _, by rw [List.drop_zero, List.drop_zero]⟩ ?_
    intro i ⟨hi, hout⟩ X ih
    conv => whnf
    refine ifP_of (fun h2 => ?_) (fun h2 => ?_)
    · have hi1 : i < xs.length := by have := of_decide_eq_true h2; omega
      have hi2 : i < ys.length := by omega
      have hx : xs.drop i = xs[i] :: xs.drop (i+1) := List.drop_eq_getElem_cons hi1
      have hy : ys.drop i = ys[i] :: ys.drop (i+1) := List.drop_eq_getElem_cons hi2
      conv => whnf
      try (refine chkP_of (by simp; done) ?_; conv => whnf)
      refine optP_of (byteC_get hi1) ?_
      conv => whnf
      try (refine chkP_of (by simp; done) ?_; conv => whnf)
      refine optP_of (byteC_get hi2) ?_
      conv => whnf
      refine ifP_of (fun h3 => ?_) (fun h3 => ?_)
      · have h3 : ¬ xs[i] = ys[i] := by simpa [bytes_eq] using h3
        conv => whnf
        exact ⟨congrArg (fun x : Bool => [V.sc (.bool x)]) (show false = eqb xs ys by rw [← hout, hx, hy, eqb_no (fun e => h3 (List.cons.inj e).1)]), rfl⟩
      · have h3 : xs[i] = ys[i] := by simpa [bytes_eq] using h3
        conv => whnf
        have hw : IntKind.i64.wrap ((i : Int) + 1) = ((i + 1 : Nat) : Int) := by rw [wrap64 (by omega) (by omega)]; omega
        have h5 := ih (i+1) ⟨by omega, by rw [← hout, hx, hy, eqb_cons h3]⟩ (by omega)
        rw [← hw] at h5
        exact h5
    · have hi1 : ¬ i < xs.length := by have := of_decide_eq_false h2; omega
      conv => whnf
      exact ⟨congrArg (fun x : Bool => [V.sc (.bool x)]) (show true = eqb xs ys by rw [← hout, List.drop_eq_nil_of_le (by omega), List.drop_eq_nil_of_le (by omega), eqb_yes rfl]), rfl⟩
theorem equalInt_ok (xs ys : List Int) (hb : xs.length ≤ 1048576) : Fn Tryz.prog [] 65 [.sh 1 (intC xs), .sh 1 (intC ys)] [] (ret [.sc (.bool (eqb xs ys))] []) := by
  refine fn_of Tryz.func65 (by kernel_rfl) ?_
  have hlx := intC_len xs
  have hly := intC_len ys
  conv => whnf
  rw [hlx, hly]
  refine ifP_of (fun h => ?_) (fun h => ?_)
  · have hne : ¬ xs = ys := fun e => by rw [e] at h; simp at h
    conv => whnf
    exact ⟨congrArg (fun x : Bool => [V.sc (.bool x)]) (eqb_no hne).symm, rfl⟩
  · have hlen : xs.length = ys.length := by
      simp only [bne_eq_false_iff_eq] at h; omega
    conv => whnf
    try rw [hlx]
    refine loop_of (A := Nat) (fun i => ⟨[(0, .sh 1 (intC xs)), (1, .sh 1 (intC ys)), (12, .sc (.int .i64 xs.length)), (13, .sc (.int .i64 i))], [], 0, 26, 0⟩) (fun i => xs.length - i) (fun i => i ≤ xs.length ∧ eqb (xs.drop i) (ys.drop i) = eqb xs ys) 0 rfl ⟨Nat.zero_le _, by rw [List.drop_zero, List.drop_zero]⟩ ?_
    intro i ⟨hi, hout⟩ X ih
    conv => whnf
    refine ifP_of (fun h2 => ?_) (fun h2 => ?_)
    · have hi1 : i < xs.length := by have := of_decide_eq_true h2; omega
      have hi2 : i < ys.length := by omega
      have hx : xs.drop i = xs[i] :: xs.drop (i+1) := List.drop_eq_getElem_cons hi1
      have hy : ys.drop i = ys[i] :: ys.drop (i+1) := List.drop_eq_getElem_cons hi2
      conv => whnf
      try (refine chkP_of (by simp; done) ?_; conv => whnf)
      refine optP_of (intC_get hi1) ?_
      conv => whnf
      try (refine chkP_of (by simp; done) ?_; conv => whnf)
      refine optP_of (intC_get hi2) ?_
      conv => whnf
      refine ifP_of (fun h3 => ?_) (fun h3 => ?_)
      · have h3 : ¬ xs[i] = ys[i] := by simpa [bytes_eq] using h3
        conv => whnf
        exact ⟨congrArg (fun x : Bool => [V.sc (.bool x)]) (show false = eqb xs ys by rw [← hout, hx, hy, eqb_no (fun e => h3 (List.cons.inj e).1)]), rfl⟩
      · have h3 : xs[i] = ys[i] := by simpa [bytes_eq] using h3
        conv => whnf
        have hw : IntKind.i64.wrap ((i : Int) + 1) = ((i + 1 : Nat) : Int) := by rw [wrap64 (by omega) (by omega)]; omega
        have h5 := ih (i+1) ⟨by omega, by rw [← hout, hx, hy, eqb_cons h3]⟩ (by omega)
        rw [← hw] at h5
        exact h5
    · have hi1 : ¬ i < xs.length := by have := of_decide_eq_false h2; omega
      conv => whnf
      exact ⟨congrArg (fun x : Bool => [V.sc (.bool x)]) (show true = eqb xs ys by rw [← hout, List.drop_eq_nil_of_le (by omega), List.drop_eq_nil_of_le (by omega), eqb_yes rfl]), rfl⟩
theorem specSameBytes (xs ys : List Int) (hb : xs.length ≤ 1048576)  : Fn Tryz.prog [] 92 [.sh 1 (byteC xs), .sh 1 (byteC ys)] [] (ret [.sc (.bool (eqb xs ys))] []) := by
  refine fn_of Tryz.func92 (by kernel_rfl) ?_
  have hlx := byteC_len xs
  have hly := byteC_len ys
  conv => whnf
  rw [hlx, hly]
  refine ifP_of (fun h => ?_) (fun h => ?_)
  · have hne : ¬ xs = ys := fun e => by rw [e] at h; simp at h
    conv => whnf
    exact ⟨congrArg (fun x : Bool => [V.sc (.bool x)]) (eqb_no hne).symm, rfl⟩
  · have hlen : xs.length = ys.length := by
      simp only [bne_eq_false_iff_eq] at h; omega
    conv => whnf
    refine loop_of (A := Nat) (fun i => ⟨[(0, .sh 1 (byteC xs)), (1, .sh 1 (byteC ys)), (5, .sc (.int .i64 i))], [], 0, 26, 0⟩) (fun i => xs.length - i) (fun i => i ≤ xs.length ∧ eqb (xs.drop i) (ys.drop i) = eqb xs ys) 0 rfl ⟨Nat.zero_le _, by rw [List.drop_zero, List.drop_zero]⟩ ?_
    intro i ⟨hi, hout⟩ X ih
    conv => whnf
    refine ifP_of (fun h2 => ?_) (fun h2 => ?_)
    · have hi1 : i < xs.length := by rw [hlx] at h2; have := of_decide_eq_true h2; omega
      have hi2 : i < ys.length := by omega
      have hx : xs.drop i = xs[i] :: xs.drop (i+1) := List.drop_eq_getElem_cons hi1
      have hy : ys.drop i = ys[i] :: ys.drop (i+1) := List.drop_eq_getElem_cons hi2
      conv => whnf
      try (refine chkP_of (by simp; done) ?_; conv => whnf)
      refine optP_of (byteC_get hi1) ?_
      conv => whnf
      try (refine chkP_of (by simp; done) ?_; conv => whnf)
      refine optP_of (byteC_get hi2) ?_
      conv => whnf
      refine ifP_of (fun h3 => ?_) (fun h3 => ?_)
      · have h3 : ¬ xs[i] = ys[i] := by simpa [bytes_eq] using h3
        conv => whnf
        exact ⟨congrArg (fun x : Bool => [V.sc (.bool x)]) (show false = eqb xs ys by rw [← hout, hx, hy, eqb_no (fun e => h3 (List.cons.inj e).1)]), rfl⟩
      · have h3 : xs[i] = ys[i] := by simpa [bytes_eq] using h3
        conv => whnf
        have hw : IntKind.i64.wrap ((i : Int) + 1) = ((i + 1 : Nat) : Int) := by rw [wrap64 (by omega) (by omega)]; omega
        have h5 := ih (i+1) ⟨by omega, by rw [← hout, hx, hy, eqb_cons h3]⟩ (by omega)
        rw [← hw] at h5
        exact h5
    · have hi1 : ¬ i < xs.length := by rw [hlx] at h2; have := of_decide_eq_false h2; omega
      conv => whnf
      exact ⟨congrArg (fun x : Bool => [V.sc (.bool x)]) (show true = eqb xs ys by rw [← hout, List.drop_eq_nil_of_le (by omega), List.drop_eq_nil_of_le (by omega), eqb_yes rfl]), rfl⟩
theorem specSameInts (xs ys : List Int) (hb : xs.length ≤ 1048576)  : Fn Tryz.prog [] 57 [.sh 1 (intC xs), .sh 1 (intC ys)] [] (ret [.sc (.bool (eqb xs ys))] []) := by
  refine fn_of Tryz.func57 (by kernel_rfl) ?_
  have hlx := intC_len xs
  have hly := intC_len ys
  conv => whnf
  rw [hlx, hly]
  refine ifP_of (fun h => ?_) (fun h => ?_)
  · have hne : ¬ xs = ys := fun e => by rw [e] at h; simp at h
    conv => whnf
    exact ⟨congrArg (fun x : Bool => [V.sc (.bool x)]) (eqb_no hne).symm, rfl⟩
  · have hlen : xs.length = ys.length := by
      simp only [bne_eq_false_iff_eq] at h; omega
    conv => whnf
    refine loop_of (A := Nat) (fun i => ⟨[(0, .sh 1 (intC xs)), (1, .sh 1 (intC ys)), (5, .sc (.int .i64 i))], [], 0, 26, 0⟩) (fun i => xs.length - i) (fun i => i ≤ xs.length ∧ eqb (xs.drop i) (ys.drop i) = eqb xs ys) 0 rfl ⟨Nat.zero_le _, by rw [List.drop_zero, List.drop_zero]⟩ ?_
    intro i ⟨hi, hout⟩ X ih
    conv => whnf
    refine ifP_of (fun h2 => ?_) (fun h2 => ?_)
    · have hi1 : i < xs.length := by rw [hlx] at h2; have := of_decide_eq_true h2; omega
      have hi2 : i < ys.length := by omega
      have hx : xs.drop i = xs[i] :: xs.drop (i+1) := List.drop_eq_getElem_cons hi1
      have hy : ys.drop i = ys[i] :: ys.drop (i+1) := List.drop_eq_getElem_cons hi2
      conv => whnf
      try (refine chkP_of (by simp; done) ?_; conv => whnf)
      refine optP_of (intC_get hi1) ?_
      conv => whnf
      try (refine chkP_of (by simp; done) ?_; conv => whnf)
      refine optP_of (intC_get hi2) ?_
      conv => whnf
      refine ifP_of (fun h3 => ?_) (fun h3 => ?_)
      · have h3 : ¬ xs[i] = ys[i] := by simpa [bytes_eq] using h3
        conv => whnf
        exact ⟨congrArg (fun x : Bool => [V.sc (.bool x)]) (show false = eqb xs ys by rw [← hout, hx, hy, eqb_no (fun e => h3 (List.cons.inj e).1)]), rfl⟩
      · have h3 : xs[i] = ys[i] := by simpa [bytes_eq] using h3
        conv => whnf
        have hw : IntKind.i64.wrap ((i : Int) + 1) = ((i + 1 : Nat) : Int) := by rw [wrap64 (by omega) (by omega)]; omega
        have h5 := ih (i+1) ⟨by omega, by rw [← hout, hx, hy, eqb_cons h3]⟩ (by omega)
        rw [← hw] at h5
        exact h5
    · have hi1 : ¬ i < xs.length := by rw [hlx] at h2; have := of_decide_eq_false h2; omega
      conv => whnf
      exact ⟨congrArg (fun x : Bool => [V.sc (.bool x)]) (show true = eqb xs ys by rw [← hout, List.drop_eq_nil_of_le (by omega), List.drop_eq_nil_of_le (by omega), eqb_yes rfl]), rfl⟩
def Opr.wire (a : Opr) : Int := if (a.rep && (wireOf a.kind != 2)) = true then 2 else wireOf a.kind
theorem specOpWire (a : Opr) : Fn Tryz.prog [] 94 [.agg a.acells] [] (ret [.sc (.int .i64 a.wire)] []) := by
  obtain ⟨x1, x2, x3, x4, x5, x6, x7, x8, x9⟩ := a
  show Fn _ _ _ _ _ (ret [.sc (.int .i64 (if (x4 && (wireOf x2 != 2)) = true then 2 else wireOf x2))] [])
  refine fn_of Tryz.func94 (by kernel_rfl) ?_
  have H := specWire x2
  generalize wireOf x2 = v at *
  conv => whnf
  refine ifP_of (fun h => ?_) (fun h => ?_)
  · have h : x4 = true := h
    subst h
    conv => whnf
    refine Fn.use H ?_
    conv => whnf
    refine ⟨trivial, ?_⟩
    conv => whnf
    refine ifP_of (fun h2 => ?_) (fun h2 => ?_)
    · have h2 : (v != 2) = true := h2
      conv => whnf
      exact ⟨il (show (2 : Int) = _ by rw [h2]; rfl), rfl⟩
    · have h2 : (v != 2) = false := h2
      conv => whnf
      refine Fn.use H ?_
      conv => whnf
      refine ⟨trivial, ?_⟩
      conv => whnf
      exact ⟨il (show v = _ by rw [h2]; rfl), rfl⟩
  · have h : x4 = false := h
    subst h
    conv => whnf
    refine Fn.use H ?_
    conv => whnf
    refine ⟨trivial, ?_⟩
    conv => whnf
    exact ⟨il (show v = _ from rfl), rfl⟩
theorem implPacked (k : Int) (r : Bool) : Fn Tryz.prog [] 131 [.sc (.int .i64 k), .sc (.bool r)] [] (ret [.sc (.bool (r && (wireOf k != 2)))] []) := by
  refine fn_of Tryz.func131 (by kernel_rfl) ?_
  have H := implWire k
  generalize wireOf k = v at *
  conv => whnf
  refine ifP_of (fun h => ?_) (fun h => ?_)
  · subst h
    conv => whnf
    refine Fn.use H ?_
    conv => whnf
    refine ⟨trivial, ?_⟩
    conv => whnf
    exact ⟨rfl, rfl⟩
  · subst h
    conv => whnf
    exact ⟨rfl, rfl⟩
theorem implTagOf (a : Opr) : Fn Tryz.prog [] 107 [.agg a.acells] [] (ret [.own true 1 (byteC (tagB a.num a.wire))] []) := by
  obtain ⟨x1, x2, x3, x4, x5, x6, x7, x8, x9⟩ := a
  show Fn _ _ _ _ _ (ret [.own true 1 (byteC (tagB x1 (if (x4 && (wireOf x2 != 2)) = true then 2 else wireOf x2)))] [])
  refine fn_of Tryz.func107 (by kernel_rfl) ?_
  have H := implWire x2
  conv => whnf
  refine Fn.use (implPacked x2 x4) ?_
  generalize wireOf x2 = v at *
  conv => whnf
  refine ⟨trivial, ?_⟩
  conv => whnf
  generalize hc : (x4 && (v != 2)) = c
  refine ifP_of (fun h => ?_) (fun h => ?_)
  · subst h
    conv => whnf
    refine Fn.use (implPutTag x1 2) ?_
    conv => whnf
    refine ⟨trivial, ?_⟩
    conv => whnf
    exact ⟨rfl, rfl⟩
  · subst h
    conv => whnf
    refine Fn.use H ?_
    conv => whnf
    refine ⟨trivial, ?_⟩
    conv => whnf
    refine Fn.use (implPutTag x1 v) ?_
    conv => whnf
    refine ⟨trivial, ?_⟩
    conv => whnf
    exact ⟨rfl, rfl⟩
end Ev
open Go Ev
open Go.Proofs
set_option maxRecDepth 100000
set_option maxHeartbeats 4000000
set_option linter.unusedVariables false
namespace Ev
def upO (m : Int) (o : Opr) : Int := if o.oneof > m then o.oneof else m
def mostO (l : List Opr) : Int := l.foldl upO 0
theorem specOneofs (a : Modu) (hb : a.ops.length ≤ 1048576) : Fn Tryz.prog [] 32 [.agg a.acells] [] (ret [.sc (.int .i64 (mostO a.ops))] []) := by
  obtain ⟨ops, jumps, cached⟩ := a
  have hb : ops.length ≤ 1048576 := hb
  have hl := Opr.css_len ops
  refine fn_of Tryz.func32 (by kernel_rfl) ?_
  conv => whnf
  refine loop_of (A := Nat × Int) (fun x => ⟨[(1, .ptr 0 [] 0 0), (3, .sc (.int .i64 x.2)), (4, .sc (.int .i64 x.1))], [(0, some ⟨[[.sh 9 (Opr.css ops), .sh 1 (intC jumps), .sc (.bool cached)]], true, 3, true⟩)], 1, 27, 0⟩) (fun x => ops.length - x.1) (fun x => x.1 ≤ ops.length ∧ (ops.drop x.1).foldl upO x.2 = mostO ops) (0, 0) rfl ⟨Nat.zero_le _, rfl⟩ ?_
  intro ⟨i, m⟩ ⟨hi, hout⟩ X ih
  dsimp only at hi hout
  conv => whnf
  refine ifP_of (fun h2 => ?_) (fun h2 => ?_)
  · have hi1 : i < ops.length := by rw [hl] at h2; have := of_decide_eq_true h2; dsimp only at this; omega
    have hx : ops.drop i = ops[i] :: ops.drop (i+1) := List.drop_eq_getElem_cons hi1
    rw [hx, List.foldl_cons] at hout
    have hw : IntKind.i64.wrap ((i : Int) + 1) = ((i + 1 : Nat) : Int) := by rw [wrap64 (by omega) (by omega)]; omega
    conv => whnf
    refine optP_of (Opr.css_get hi1) ?_
    conv => whnf
    refine ifP_of (fun h3 => ?_) (fun h3 => ?_)
    · have h3 : ops[i].oneof > m := of_decide_eq_true h3
      conv => whnf
      refine optP_of (Opr.css_get hi1) ?_
      conv => whnf
      have h5 := ih (i+1, ops[i].oneof) ⟨by dsimp only; omega, by dsimp only; rw [← hout, upO, if_pos h3]⟩ (by dsimp only; omega)
      dsimp only at h5
      rw [← hw] at h5
      exact h5
    · have h3 : ¬ ops[i].oneof > m := of_decide_eq_false h3
      conv => whnf
      have h5 := ih (i+1, m) ⟨by dsimp only; omega, by dsimp only; rw [← hout, upO, if_neg h3]⟩ (by dsimp only; omega)
      dsimp only at h5
      rw [← hw] at h5
      exact h5
  · have hi1 : ¬ i < ops.length := by rw [hl] at h2; have := of_decide_eq_false h2; dsimp only at this; omega
    conv => whnf
    rw [List.drop_eq_nil_of_le (by omega)] at hout
    exact ⟨il hout, rfl⟩
end Ev
open Go Ev
open Go.Proofs
set_option maxRecDepth 100000
set_option maxHeartbeats 4000000
set_option linter.unusedVariables false
namespace Ev
/-- Whether it is so. -/
noncomputable def pb (p : Prop) : Bool := @decide p (Classical.propDecidable p)
theorem pb_yes {p : Prop} (h : p) : pb p = true := @decide_eq_true _ (Classical.propDecidable _) h
theorem pb_no {p : Prop} (h : ¬ p) : pb p = false := @decide_eq_false _ (Classical.propDecidable _) h
theorem of_pb {p : Prop} (h : pb p = true) : p := @of_decide_eq_true _ (Classical.propDecidable _) h
theorem of_pb_no {p : Prop} (h : pb p = false) : ¬ p := @of_decide_eq_false _ (Classical.propDecidable _) h
theorem pb_iff {p q : Prop} (h : p ↔ q) : pb p = pb q := by rw [propext h]
def metO (l : List Opr) (n : Int) : Prop := ∃ o ∈ l, o.oneof = n
def oneofsOk (l : List Opr) (n : Int) : Prop := ∀ k : Int, 1 ≤ k → k ≤ n → metO l k
theorem metO_cons {o : Opr} {l : List Opr} {n : Int} : metO (o :: l) n ↔ o.oneof = n ∨ metO l n := by unfold metO; simp
theorem mostO_le : ∀ (l : List Opr) (m : Int), m ≤ l.foldl upO m ∧ ∀ o ∈ l, o.oneof ≤ l.foldl upO m
  | [], m => ⟨Int.le_refl _, fun o h => nomatch h⟩
  | a :: l, m => by
    obtain ⟨h1, h2⟩ := mostO_le l (upO m a)
    have hu : m ≤ upO m a ∧ a.oneof ≤ upO m a := by unfold upO; split <;> omega
    rw [List.foldl_cons]
    refine ⟨by omega, fun o ho => ?_⟩
    rcases List.mem_cons.1 ho with rfl | ho
    · omega
    · exact h2 o ho
theorem mostO_small {l : List Opr} (h : ∀ o ∈ l, o.oneof ≤ 9223372036854775807) : ∀ m, m ≤ 9223372036854775807 → l.foldl upO m ≤ 9223372036854775807 := by
  induction l with
  | nil => intro m hm; exact hm
  | cons a l ih =>
    intro m hm
    rw [List.foldl_cons]
    refine ih (fun o ho => h o (List.mem_cons_of_mem _ ho)) _ ?_
    have := h a (List.mem_cons_self ..)
    unfold upO; split <;> omega
theorem specOneofsOk (a : Modu) (hb : a.ops.length ≤ 1048576) (hs : ∀ o ∈ a.ops, o.oneof ≤ 9223372036854775807) : Fn Tryz.prog [] 56 [.agg a.acells] [] (ret [.sc (.bool (pb (oneofsOk a.ops (mostO a.ops))))] []) := by
  have H := specOneofs a hb
  have hmost := mostO_small hs 0 (by omega)
  have hmost0 := (mostO_le a.ops 0).1
  obtain ⟨ops, jumps, cached⟩ := a
  have hb : ops.length ≤ 1048576 := hb
  have hl := Opr.css_len ops
  have hmost : mostO ops ≤ 9223372036854775807 := hmost
  have hmost0 : 0 ≤ mostO ops := hmost0
  show Fn _ _ _ _ _ (ret [.sc (.bool (pb (oneofsOk ops (mostO ops))))] [])
  refine fn_of Tryz.func56 (by kernel_rfl) ?_
  conv => whnf
  refine Fn.use H ?_
  conv => whnf
  refine ⟨trivial, ?_⟩
  conv => whnf
  refine loop_of (A := Int) (fun n => ⟨[(1, .ptr 0 [] 0 0), (3, .sc (.int .i64 n))], [(0, some ⟨[[.sh 9 (Opr.css ops), .sh 1 (intC jumps), .sc (.bool cached)]], true, 3, true⟩)], 1, 32, 0⟩) (fun n => n.toNat) (fun n => 0 ≤ n ∧ n ≤ mostO ops ∧ ∀ k, n < k → k ≤ mostO ops → metO ops k) (mostO ops) rfl ⟨hmost0, Int.le_refl _, fun k h1 h2 => by omega⟩ ?_
  intro n ⟨hn0, hn1, hall⟩ X ih
  conv => whnf
  refine ifP_of (fun h => ?_) (fun h => ?_)
  · have hn : n > 0 := of_decide_eq_true h
    conv => whnf
    refine loop_of (A := Nat × Bool) (fun x => ⟨[(1, .ptr 0 [] 0 0), (3, .sc (.int .i64 n)), (4, .sc (.bool x.2)), (5, .sc (.int .i64 x.1))], [(0, some ⟨[[.sh 9 (Opr.css ops), .sh 1 (intC jumps), .sc (.bool cached)]], true, 3, true⟩)], 1, 32, 0⟩) (fun x => ops.length - x.1) (fun x => x.1 ≤ ops.length ∧ ((x.2 = true ∨ metO (ops.drop x.1) n) ↔ metO ops n)) (0, false) rfl ⟨Nat.zero_le _, by simp⟩ ?_
    intro ⟨i, met⟩ ⟨hi, hm⟩ Y ih2
    dsimp only at hi hm
    conv => whnf
    refine ifP_of (fun h2 => ?_) (fun h2 => ?_)
    · have hi1 : i < ops.length := by rw [hl] at h2; have := of_decide_eq_true h2; dsimp only at this; omega
      have hx : ops.drop i = ops[i] :: ops.drop (i+1) := List.drop_eq_getElem_cons hi1
      rw [hx, metO_cons] at hm
      have hw : IntKind.i64.wrap ((i : Int) + 1) = ((i + 1 : Nat) : Int) := by rw [wrap64 (by omega) (by omega)]; omega
      conv => whnf
      refine ifP_of (fun h3 => ?_) (fun h3 => ?_)
      · have h3 : met = true := h3
        subst h3
        conv => whnf
        have h5 := ih2 (i+1, true) ⟨by dsimp only; omega, by dsimp only; rw [← hm]; simp⟩ (by dsimp only; omega)
        dsimp only at h5
        rw [← hw] at h5
        exact h5
      · have h3 : met = false := h3
        subst h3
        conv => whnf
        refine optP_of (Opr.css_get hi1) ?_
        conv => whnf
        have h5 := ih2 (i+1, ops[i].oneof == n) ⟨by dsimp only; omega, by dsimp only; rw [← hm]; simp⟩ (by dsimp only; omega)
        dsimp only at h5
        rw [← hw] at h5
        exact h5
    · have hi1 : ¬ i < ops.length := by rw [hl] at h2; have := of_decide_eq_false h2; dsimp only at this; omega
      rw [List.drop_eq_nil_of_le (by omega)] at hm
      have hm : met = true ↔ metO ops n := by rw [← hm]; simp [metO]
      conv => whnf
      refine ifP_of (fun h3 => ?_) (fun h3 => ?_)
      · have h3 : met = false := by simpa using h3
        subst h3
        conv => whnf
        exact ⟨bl (pb_no (fun hh => by have := hm.2 (hh n (by omega) hn1); cases this)).symm, rfl⟩
      · have h3 : met = true := by simpa using h3
        subst h3
        conv => whnf
        have hw : IntKind.i64.wrap (n - 1) = n - 1 := wrap64 (by omega) (by omega)
        have h5 := ih (n - 1) ⟨by omega, by omega, fun k h1 h2 => by
          by_cases e : k = n
          · rw [e]; exact hm.1 rfl
          · exact hall k (by omega) h2⟩ (by omega)
        rw [← hw] at h5
        exact h5
  · have hn : ¬ n > 0 := of_decide_eq_false h
    conv => whnf
    exact ⟨bl (pb_yes (fun k h1 h2 => hall k (by omega) h2)).symm, rfl⟩
end Ev
open Go Ev
open Go.Proofs
set_option maxRecDepth 100000
set_option maxHeartbeats 4000000
set_option linter.unusedVariables false
namespace Ev
def pairsOk (xs ys : List Opr) : Bool := (xs.zip ys).all fun p => p.1.plain && p.1.same p.2
/-- An Op's Inline is right. -/
def inlOk (mods : List Modu) (o : Opr) : Bool := (o.inl.length == 0) || ((o.kind == 16) && (match mods[o.ref.toNat]? with
  | some m => (o.inl.length == m.ops.length) && pairsOk o.inl m.ops
  | none => false))
theorem pairsOk_drop {xs ys : List Opr} {i : Nat} (h : i < xs.length) (h' : i < ys.length) : pairsOk (xs.drop i) (ys.drop i) = ((xs[i].plain && xs[i].same ys[i]) && pairsOk (xs.drop (i+1)) (ys.drop (i+1))) := by
  rw [List.drop_eq_getElem_cons h, List.drop_eq_getElem_cons h']; rfl
theorem specInline (mods : List Modu) (o : Opr) (hb : o.inl.length ≤ 1048576) (hr : o.kind = 16 → ∃ r : Nat, o.ref = r ∧ r < mods.length) : Fn Tryz.prog [] 96 [.agg [.sh 3 (Modu.css mods)], .agg o.acells] [] (ret [.sc (.bool (inlOk mods o))] []) := by
  obtain ⟨num, kind, ref, rep, oneof, tag, quick, run, inl⟩ := o
  have hb : inl.length ≤ 1048576 := hb
  have hl := Opr.css_len inl
  have e0 : ((inl.length : Int) == 0) = (inl.length == 0) := by rw [Bool.eq_iff_iff]; simp
  refine fn_of Tryz.func96 (by kernel_rfl) ?_
  conv => whnf
  rw [hl]
  refine ifP_of (fun h => ?_) (fun h => ?_)
  · have h : (inl.length == 0) = true := e0 ▸ h
    conv => whnf
    exact ⟨bl (by unfold inlOk; dsimp only; rw [h]; rfl), rfl⟩
  · have h : (inl.length == 0) = false := e0 ▸ h
    conv => whnf
    refine ifP_of (fun hk => ?_) (fun hk => ?_)
    · have hk : (kind == 16) = false := by simpa using hk
      conv => whnf
      exact ⟨bl (by unfold inlOk; dsimp only; rw [h, hk]; rfl), rfl⟩
    · have hk : kind = 16 := by simpa using hk
      subst hk
      obtain ⟨r, hr1, hr2⟩ := hr rfl
      have hr1 : ref = r := hr1
      subst hr1
      have hm : mods[r]? = some mods[r] := List.getElem?_eq_getElem hr2
      have key : inlOk mods ⟨num, 16, r, rep, oneof, tag, quick, run, inl⟩ = ((inl.length == mods[r].ops.length) && pairsOk inl mods[r].ops) := by
        unfold inlOk
        dsimp only
        rw [h, Int.toNat_natCast, hm]; rfl
      rw [key]
      have hl2 := Opr.css_len mods[r].ops
      conv => whnf
      refine optP_of (Modu.css_get hr2) ?_
      conv => whnf
      rw [hl, hl2]
      refine ifP_of (fun hn => ?_) (fun hn => ?_)
      · have hn : (inl.length == mods[r].ops.length) = false := by simp at hn; simp; omega
        conv => whnf
        exact ⟨bl (by rw [hn]; rfl), rfl⟩
      · have hn : inl.length = mods[r].ops.length := by simp at hn; omega
        rw [show (inl.length == mods[r].ops.length) = true by simp [hn], Bool.true_and]
        conv => whnf
        refine loop_of (A := Nat) (fun i => ⟨[(2, .ptr 0 [] 0 0), (3, .ptr 1 [] 0 0), (5, .sc (.int .i64 i))], [(0, some ⟨[[.sh 3 (Modu.css mods)]], true, 1, true⟩), (1, some ⟨[[.sc (.int .i64 num), .sc (.int .i64 16), .sc (.int .i64 r), .sc (.bool rep), .sc (.int .i64 oneof), .sh 1 (byteC tag), .sc (.bool quick), .sc (.int .i64 run), .sh 9 (Opr.css inl)]], true, 9, true⟩)], 2, 60, 0⟩) (fun i => inl.length - i) (fun i => i ≤ inl.length ∧ pairsOk (inl.drop i) (mods[r].ops.drop i) = pairsOk inl mods[r].ops) 0 rfl ⟨Nat.zero_le _, rfl⟩ ?_
        intro i ⟨hi, hout⟩ X ih
        conv => whnf
        refine ifP_of (fun h2 => ?_) (fun h2 => ?_)
        · have hi1 : i < inl.length := by rw [hl] at h2; have := of_decide_eq_true h2; omega
          have hi2 : i < mods[r].ops.length := by omega
          have hw : IntKind.i64.wrap ((i : Int) + 1) = ((i + 1 : Nat) : Int) := by rw [wrap64 (by omega) (by omega)]; omega
          rw [pairsOk_drop hi1 hi2] at hout
          conv => whnf
          refine optP_of (Opr.css_get hi1) ?_
          conv => whnf
          refine Fn.use (specPlain inl[i]) ?_
          conv => whnf
          refine ⟨trivial, ?_⟩
          conv => whnf
          generalize hp : inl[i].plain = p at *
          refine ifP_of (fun h3 => ?_) (fun h3 => ?_)
          · have h3 : p = false := by simpa using h3
            subst h3
            conv => whnf
            exact ⟨bl hout, rfl⟩
          · have h3 : p = true := by simpa using h3
            subst h3
            conv => whnf
            repeat (first | refine optP_of (Opr.css_get hi1) ?_ | refine optP_of (Modu.css_get hr2) ?_ | refine optP_of (Opr.css_get hi2) ?_); conv => whnf
            refine Fn.use (specSame inl[i] mods[r].ops[i]) ?_
            conv => whnf
            refine ⟨trivial, ?_⟩
            conv => whnf
            generalize hq : inl[i].same mods[r].ops[i] = q at *
            refine ifP_of (fun h4 => ?_) (fun h4 => ?_)
            · have h4 : q = false := by simpa using h4
              subst h4
              conv => whnf
              exact ⟨bl hout, rfl⟩
            · have h4 : q = true := by simpa using h4
              subst h4
              conv => whnf
              have h5 := ih (i+1) ⟨by omega, by simpa using hout⟩ (by omega)
              rw [← hw] at h5
              exact h5
        · have hi1 : ¬ i < inl.length := by rw [hl] at h2; have := of_decide_eq_false h2; omega
          rw [List.drop_eq_nil_of_le (by omega)] at hout
          conv => whnf
          exact ⟨bl hout, rfl⟩
end Ev
open Go Ev
open Go.Proofs
set_option maxRecDepth 100000
set_option maxHeartbeats 4000000
set_option linter.unusedVariables false
namespace Ev
theorem implPair (a b : Opr) : Fn Tryz.prog [] 111 [.agg a.acells, .agg b.acells] [] (ret [.sc (.bool (a.plain && a.same b))] []) := by
  refine fn_of Tryz.func111 (by kernel_rfl) ?_
  conv => whnf
  refine Fn.use (implPlain a) ?_
  conv => whnf
  refine ⟨trivial, ?_⟩
  conv => whnf
  generalize a.plain = p
  refine ifP_of (fun h => ?_) (fun h => ?_)
  · subst h
    conv => whnf
    refine Fn.use (implSame a b) ?_
    conv => whnf
    refine ⟨trivial, ?_⟩
    conv => whnf
    exact ⟨rfl, rfl⟩
  · subst h
    conv => whnf
    exact ⟨rfl, rfl⟩
theorem implPairs (xs ys : List Opr) (hb : xs.length ≤ 1048576) : Fn Tryz.prog [] 110 [.sh 9 (Opr.css xs), .sh 9 (Opr.css ys), .fn 111 []] [] (ret [.sc (.bool ((xs.length == ys.length) && pairsOk xs ys))] []) := by
  refine fn_of Tryz.func110 (by kernel_rfl) ?_
  have hlx := Opr.css_len xs
  have hly := Opr.css_len ys
  conv => whnf
  rw [hlx, hly]
  refine ifP_of (fun h => ?_) (fun h => ?_)
  · have hne : (xs.length == ys.length) = false := by simp at h; simp; omega
    conv => whnf
    exact ⟨bl (by rw [hne]; rfl), rfl⟩
  · have hlen : xs.length = ys.length := by
      simp only [bne_eq_false_iff_eq] at h; omega
    rw [show (xs.length == ys.length) = true by simp [hlen], Bool.true_and]
    conv => whnf
    try rw [hlx]
    refine loop_of (A := Nat) (fun i => ⟨[(1, .sh 9 (Opr.css ys)), (2, .fn 111 []), (15, .sh 9 (Opr.css xs)), (16, .sc (.int .i64 xs.length)), (17, .sc (.int .i64 i))], [], 0, 32, 0⟩) (fun i => xs.length - i) (fun i => i ≤ xs.length ∧ pairsOk (xs.drop i) (ys.drop i) = pairsOk xs ys) 0 rfl ⟨Nat.zero_le _, rfl⟩ ?_
    intro i ⟨hi, hout⟩ X ih
    conv => whnf
    refine ifP_of (fun h2 => ?_) (fun h2 => ?_)
    · have hi1 : i < xs.length := by have := of_decide_eq_true h2; omega
      have hi2 : i < ys.length := by omega
      rw [pairsOk_drop hi1 hi2] at hout
      conv => whnf
      refine optP_of (Opr.css_get hi1) ?_
      conv => whnf
      refine optP_of (Opr.css_get hi2) ?_
      conv => whnf
      refine Fn.use (implPair xs[i] ys[i]) ?_
      conv => whnf
      refine ⟨trivial, ?_⟩
      conv => whnf
      generalize (xs[i].plain && xs[i].same ys[i]) = c at *
      refine ifP_of (fun h3 => ?_) (fun h3 => ?_)
      · have h3 : c = false := by simpa using h3
        subst h3
        conv => whnf
        exact ⟨bl hout, rfl⟩
      · have h3 : c = true := by simpa using h3
        subst h3
        conv => whnf
        have hw : IntKind.i64.wrap ((i : Int) + 1) = ((i + 1 : Nat) : Int) := by rw [wrap64 (by omega) (by omega)]; omega
        have h5 := ih (i+1) ⟨by omega, by simpa using hout⟩ (by omega)
        rw [← hw] at h5
        exact h5
    · have hi1 : ¬ i < xs.length := by have := of_decide_eq_false h2; omega
      conv => whnf
      rw [List.drop_eq_nil_of_le (by omega)] at hout
      exact ⟨bl hout, rfl⟩
end Ev
open Go Ev
open Go.Proofs
set_option maxRecDepth 100000
set_option maxHeartbeats 4000000
set_option linter.unusedVariables false
namespace Ev
/-- The first place that is so; -1: none. -/
def firstBy (p : Opr → Bool) : List Opr → Nat → Int
  | [], _ => -1
  | a :: l, i => if p a = true then (i : Int) else firstBy p l (i + 1)
theorem closure121 (a : Opr) (k : Int) : Fn Tryz.prog [] 105 [.agg a.acells, .shp [.sc (.int .i64 k)]] [] (ret [.sc (.bool (a.num == k))] []) := by
  refine fn_of Tryz.func105 (by kernel_rfl) ?_
  conv => whnf
  exact ⟨rfl, rfl⟩
theorem indexBy121 (xs : List Opr) (k : Int) (hb : xs.length ≤ 1048576) : Fn Tryz.prog [] 104 [.sh 9 (Opr.css xs), .fn 105 [.shp [.sc (.int .i64 k)]]] [] (ret [.sc (.int .i64 (firstBy (fun a => a.num == k) xs 0))] []) := by
  refine fn_of Tryz.func104 (by kernel_rfl) ?_
  have hl := Opr.css_len xs
  conv => whnf
  rw [hl]
  refine loop_of (A := Nat) (fun i => ⟨[(0, .sh 9 (Opr.css xs)), (1, .fn 105 [.shp [.sc (.int .i64 k)]]), (7, .sc (.int .i64 xs.length)), (8, .sc (.int .i64 i))], [], 0, 19, 0⟩) (fun i => xs.length - i) (fun i => i ≤ xs.length ∧ firstBy (fun a => a.num == k) (xs.drop i) i = firstBy (fun a => a.num == k) xs 0) 0 rfl ⟨Nat.zero_le _, rfl⟩ ?_
  intro i ⟨hi, hout⟩ X ih
  conv => whnf
  refine ifP_of (fun h2 => ?_) (fun h2 => ?_)
  · have hi1 : i < xs.length := by have := of_decide_eq_true h2; omega
    have hx : xs.drop i = xs[i] :: xs.drop (i+1) := List.drop_eq_getElem_cons hi1
    rw [hx, firstBy] at hout
    conv => whnf
    refine optP_of (Opr.css_get hi1) ?_
    conv => whnf
    refine Fn.use (closure121 xs[i] k) ?_
    conv => whnf
    refine ⟨trivial, ?_⟩
    conv => whnf
    generalize (xs[i].num == k) = c at *
    refine ifP_of (fun h3 => ?_) (fun h3 => ?_)
    · have h3 : c = true := h3
      subst h3
      conv => whnf
      exact ⟨il (by rw [← hout]; rfl), rfl⟩
    · have h3 : c = false := h3
      subst h3
      conv => whnf
      have hw : IntKind.i64.wrap ((i : Int) + 1) = ((i + 1 : Nat) : Int) := by rw [wrap64 (by omega) (by omega)]; omega
      have h5 := ih (i+1) ⟨by omega, hout⟩ (by omega)
      rw [← hw] at h5
      exact h5
  · have hi1 : ¬ i < xs.length := by have := of_decide_eq_false h2; omega
    conv => whnf
    rw [List.drop_eq_nil_of_le (by omega)] at hout
    exact ⟨il (by rw [← hout]; rfl), rfl⟩
theorem closure119 (a : Opr) (k : Int) : Fn Tryz.prog [] 103 [.agg a.acells, .shp [.sc (.int .i64 k)]] [] (ret [.sc (.bool (a.oneof == k))] []) := by
  refine fn_of Tryz.func103 (by kernel_rfl) ?_
  conv => whnf
  exact ⟨rfl, rfl⟩
theorem indexBy119 (xs : List Opr) (k : Int) (hb : xs.length ≤ 1048576) : Fn Tryz.prog [] 104 [.sh 9 (Opr.css xs), .fn 103 [.shp [.sc (.int .i64 k)]]] [] (ret [.sc (.int .i64 (firstBy (fun a => a.oneof == k) xs 0))] []) := by
  refine fn_of Tryz.func104 (by kernel_rfl) ?_
  have hl := Opr.css_len xs
  conv => whnf
  rw [hl]
  refine loop_of (A := Nat) (fun i => ⟨[(0, .sh 9 (Opr.css xs)), (1, .fn 103 [.shp [.sc (.int .i64 k)]]), (7, .sc (.int .i64 xs.length)), (8, .sc (.int .i64 i))], [], 0, 19, 0⟩) (fun i => xs.length - i) (fun i => i ≤ xs.length ∧ firstBy (fun a => a.oneof == k) (xs.drop i) i = firstBy (fun a => a.oneof == k) xs 0) 0 rfl ⟨Nat.zero_le _, rfl⟩ ?_
  intro i ⟨hi, hout⟩ X ih
  conv => whnf
  refine ifP_of (fun h2 => ?_) (fun h2 => ?_)
  · have hi1 : i < xs.length := by have := of_decide_eq_true h2; omega
    have hx : xs.drop i = xs[i] :: xs.drop (i+1) := List.drop_eq_getElem_cons hi1
    rw [hx, firstBy] at hout
    conv => whnf
    refine optP_of (Opr.css_get hi1) ?_
    conv => whnf
    refine Fn.use (closure119 xs[i] k) ?_
    conv => whnf
    refine ⟨trivial, ?_⟩
    conv => whnf
    generalize (xs[i].oneof == k) = c at *
    refine ifP_of (fun h3 => ?_) (fun h3 => ?_)
    · have h3 : c = true := h3
      subst h3
      conv => whnf
      exact ⟨il (by rw [← hout]; rfl), rfl⟩
    · have h3 : c = false := h3
      subst h3
      conv => whnf
      have hw : IntKind.i64.wrap ((i : Int) + 1) = ((i + 1 : Nat) : Int) := by rw [wrap64 (by omega) (by omega)]; omega
      have h5 := ih (i+1) ⟨by omega, hout⟩ (by omega)
      rw [← hw] at h5
      exact h5
  · have hi1 : ¬ i < xs.length := by have := of_decide_eq_false h2; omega
    conv => whnf
    rw [List.drop_eq_nil_of_le (by omega)] at hout
    exact ⟨il (by rw [← hout]; rfl), rfl⟩
theorem containsBy119 (xs : List Opr) (k : Int) (hb : xs.length ≤ 1048576) : Fn Tryz.prog [] 102 [.sh 9 (Opr.css xs), .fn 103 [.shp [.sc (.int .i64 k)]]] [] (ret [.sc (.bool (decide (firstBy (fun a => a.oneof == k) xs 0 ≥ 0)))] []) := by
  refine fn_of Tryz.func102 (by kernel_rfl) ?_
  conv => whnf
  refine Fn.use (indexBy119 xs k hb) ?_
  conv => whnf
  refine ⟨trivial, ?_⟩
  conv => whnf
  exact ⟨rfl, rfl⟩
end Ev
open Go Ev
set_option linter.unusedVariables false
namespace Ev
/-- All of 1 .. n are met: there are so many at least. -/
theorem met_len : ∀ (n : Nat) (l : List Opr), (∀ k : Int, 1 ≤ k → k ≤ n → metO l k) → n ≤ l.length
  | 0, l, h => Nat.zero_le _
  | n + 1, l, h => by
    have h1 := met_len n (l.filter fun o => o.oneof != ((n + 1 : Nat) : Int)) (fun k k1 k2 => by
      obtain ⟨o, ho, e⟩ := h k k1 (by omega)
      exact ⟨o, List.mem_filter.2 ⟨ho, by simp [e]; omega⟩, e⟩)
    obtain ⟨o, ho, e⟩ := h ((n + 1 : Nat) : Int) (by omega) (by omega)
    have h2 : (l.filter fun o => o.oneof != ((n + 1 : Nat) : Int)).length < l.length := List.length_filter_lt_length_iff_exists.2 ⟨o, ho, by simp [e]⟩
    omega
theorem firstBy_ge {p : Opr → Bool} : ∀ (l : List Opr) (i : Nat), (firstBy p l i = -1 ∧ ∀ o ∈ l, p o = false) ∨ (∃ j : Nat, firstBy p l i = j ∧ i ≤ j ∧ j < i + l.length ∧ ∃ h : j - i < l.length, p l[j - i] = true ∧ ∀ k (hk : k < j - i), p (l[k]'(by omega)) = false)
  | [], i => .inl ⟨rfl, fun o h => nomatch h⟩
  | a :: l, i => by
    unfold firstBy
    by_cases h : p a = true
    · rw [if_pos h]
      exact .inr ⟨i, rfl, Nat.le_refl _, by simp, by simp, by simpa using h, fun k hk => by omega⟩
    · rw [if_neg h]
      rcases firstBy_ge l (i + 1) with ⟨h1, h2⟩ | ⟨j, h1, h2, h3, h4, h5, h6⟩
      · refine .inl ⟨h1, fun o ho => ?_⟩
        rcases List.mem_cons.1 ho with rfl | ho
        · simpa using h
        · exact h2 o ho
      · refine .inr ⟨j, h1, by omega, by simp; omega, by simp; omega, ?_, fun k hk => ?_⟩
        · have : j - i = (j - (i + 1)) + 1 := by omega
          simp only [this, List.getElem_cons_succ]
          exact h5
        · cases k with
          | zero => simpa using h
          | succ k => simp only [List.getElem_cons_succ]; exact h6 k (by omega)
/-- The last place that is so; -1: none. -/
def lastBy (p : Opr → Bool) (l : List Opr) (i : Nat) (d : Int) : Int := match l with
  | [] => d
  | a :: l => lastBy p l (i + 1) (if p a = true then (i : Int) else d)
def sortedO : List Opr → Bool
  | [] => true
  | a :: l => (match l with
    | [] => true
    | b :: _ => decide (a.num < b.num)) && sortedO l
theorem sorted_lt : ∀ {l : List Opr} {a : Opr}, sortedO (a :: l) = true → ∀ b ∈ l, a.num < b.num
  | [], a, h, b, hb => nomatch hb
  | c :: l, a, h, b, hb => by
    unfold sortedO at h
    rw [Bool.and_eq_true] at h
    have h1 : a.num < c.num := of_decide_eq_true h.1
    rcases List.mem_cons.1 hb with rfl | hb
    · exact h1
    · have := sorted_lt h.2 b hb; omega
theorem lastBy_none {p : Opr → Bool} : ∀ {l : List Opr} {i : Nat} {d : Int}, (∀ o ∈ l, p o = false) → lastBy p l i d = d
  | [], i, d, h => rfl
  | a :: l, i, d, h => by
    unfold lastBy
    rw [lastBy_none (fun o ho => h o (List.mem_cons_of_mem _ ho)), if_neg (by rw [h a (List.mem_cons_self ..)]; simp)]
theorem first_last {k : Int} : ∀ {l : List Opr} {i : Nat} {d : Int}, sortedO l = true → d = -1 → lastBy (fun o => o.num == k) l i d = firstBy (fun o => o.num == k) l i
  | [], i, d, h, hd => hd
  | a :: l, i, d, h, hd => by
    unfold lastBy firstBy
    have h2 : sortedO l = true := by unfold sortedO at h; rw [Bool.and_eq_true] at h; exact h.2
    by_cases e : a.num = k
    · have hp : (a.num == k) = true := by simp [e]
      rw [if_pos hp, if_pos hp]
      exact lastBy_none (fun o ho => by have := sorted_lt h o ho; simp; omega)
    · have hp : ¬ (a.num == k) = true := by simp [e]
      rw [if_neg hp, if_neg hp]
      exact first_last h2 hd
end Ev
