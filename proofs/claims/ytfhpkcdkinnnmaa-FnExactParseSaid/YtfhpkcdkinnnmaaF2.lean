/- The parser of schemas in plain Lean: tokens, the parser's state, and what each of its parts reads. -/
import Derived.Test.YtfhpkcdkinnnmaaF1
import Derived.Test.YtfhpkcdkinnnmaaD
open Go Ev
open Go.Proofs
set_option maxRecDepth 100000
set_option maxHeartbeats 4000000
set_option linter.unusedVariables false
namespace Ev
theorem il' {x y : Int} (h : x = y) : [V.sc (.int .i64 x)] = [V.sc (.int .i64 y)] := by rw [h]
theorem gset {D R : List (List V)} (r : List V) : (D ++ r :: R)[((D.length : Nat) : Int).toNat]? = some r := by
  rw [Int.toNat_natCast, List.getElem?_append_right (Nat.le_refl _), Nat.sub_self]; rfl
theorem pset {D R : List (List V)} (r x : List V) : putAt (fun es => es.set ((D.length : Nat) : Int).toNat x) (D ++ r :: R) [] = D ++ x :: R := by
  show (D ++ r :: R).set ((D.length : Nat) : Int).toNat x = _
  rw [Int.toNat_natCast, List.set_append_right (h := Nat.le_refl _), Nat.sub_self]; rfl
theorem hwk {k : Int} (h0 : 0 ≤ k) (h1 : k ≤ 4611686018427387904) : IntKind.i64.wrap (k + 1) = k + 1 := wrap64 (by omega) (by omega)
theorem hwn {n : Nat} (h1 : n ≤ 4611686018427387904) : IntKind.i64.wrap ((n : Int) + 1) = ((n + 1 : Nat) : Int) := by rw [wrap64 (by omega) (by omega)]; omega
theorem lenl {D R : List (List V)} {r : List V} : decide (((D.length : Nat) : Int) < (((D ++ r :: R).length : Nat) : Int)) = true := by rw [List.length_append, List.length_cons]; exact decide_eq_true (by omega)
theorem ifP_no {b : Bool} {A B : Prop} (h : b = false) (k : B) : ifP b A B := by rw [h]; exact k
theorem ifP_yes {b : Bool} {A B : Prop} (h : b = true) (k : A) : ifP b A B := by rw [h]; exact k
theorem neI (x : Int) : (x != x) = false := by simp
theorem neB (x : Bool) : (x != x) = false := by simp
theorem neS (x : ByteArray) : (!(x.toList == x.toList)) = false := by simp
def mkSt (n fz : Nat) (D R : List (List V)) (k : Int) : St := ⟨[(0, .hdr 0 []), (1, .sc (.int .i64 k)), (5, .sc (.int .i64 D.length))], [(0, some ⟨D ++ R, true, n, false⟩)], 1, fz, 1⟩
def hdSt (n fz : Nat) (D R : List (List V)) (k : Int) : St := ⟨[(0, .sh n (D ++ R)), (1, .sc (.int .i64 k)), (5, .sc (.int .i64 D.length))], [], 0, fz, 0⟩
def eM {α : Type} (n fz : Nat) (css : List α → List (List V)) (x : List α × List α × Int) : St := mkSt n fz (css x.1) (css x.2.1) x.2.2
def eK {α : Type} (n fz : Nat) (cssk : List α → Int → List (List V)) (x : List (List V) × List α × Int) : St := hdSt n fz x.1 (cssk x.2.1 x.2.2) x.2.2
theorem eM_eq {α : Type} (n fz : Nat) (css : List α → List (List V)) (d r : List α) (k : Int) : eM n fz css (d, r, k) = ⟨[(0, .hdr 0 []), (1, .sc (.int .i64 k)), (5, .sc (.int .i64 (css d).length))], [(0, some ⟨css d ++ css r, true, n, false⟩)], 1, fz, 1⟩ := rfl
theorem eK_eq {α : Type} (n fz : Nat) (cssk : List α → Int → List (List V)) (D : List (List V)) (r : List α) (k : Int) : eK n fz cssk (D, r, k) = ⟨[(0, .sh n (D ++ cssk r k)), (1, .sc (.int .i64 k)), (5, .sc (.int .i64 D.length))], [], 0, fz, 0⟩ := rfl
theorem intC_app (d : List Int) (a : Int) (R : List (List V)) : intC d ++ [.sc (.int .i64 a)] :: R = intC (d ++ [a]) ++ R := by unfold intC; rw [List.map_append, List.append_assoc]; rfl
theorem strC_app (d : List ByteArray) (a : ByteArray) (R : List (List V)) : strC d ++ [.sc (.string a)] :: R = strC (d ++ [a]) ++ R := by unfold strC; rw [List.map_append, List.append_assoc]; rfl
theorem intC_cons (a : Int) (l : List Int) : intC (a :: l) = [.sc (.int .i64 a)] :: intC l := rfl
theorem strC_cons (a : ByteArray) (l : List ByteArray) : strC (a :: l) = [.sc (.string a)] :: strC l := rfl
/-- Figures of a number, behind what is there. -/
def figF (x : Int × ByteArray) : Int × ByteArray := (IntKind.i64.wrap (x.1.tdiv 10), (⟨#[(48 + x.1.toNat % 10).toUInt8]⟩ : ByteArray) ++ x.2)
def figs : Nat → Int × ByteArray → ByteArray
  | 0, x => x.2
  | n + 1, x => match decide (x.1 > 0) with
    | true => figs n (figF x)
    | false => x.2
def txtM (k : Int) : ByteArray := match decide (k ≤ 0) with
  | true => ⟨#[109, 48]⟩
  | false => (⟨#[109]⟩ : ByteArray) ++ figs 20 (k, .empty)
def intM : List Int → Int → List Int
  | [], _ => []
  | _ :: l, k => k :: intM l (k + 1)
def byteM : List Int → Int → List Int
  | [], _ => []
  | _ :: l, k => IntKind.u8.wrap k :: byteM l (k + 1)
def strM : List ByteArray → Int → List ByteArray
  | [], _ => []
  | _ :: l, k => txtM k :: strM l (k + 1)
theorem fig_byte {k : Int} (h0 : 0 < k) : IntKind.u8.wrap (IntKind.i64.wrap (48 + k.tmod 10)) = (((48 + k.toNat % 10).toUInt8).toNat : Int) := by
  rw [Int.tmod_eq_emod_of_nonneg (by omega), wrap64 (by omega) (by omega), IntKind.wrap_u8]
  have : ((48 + k.toNat % 10).toUInt8).toNat = 48 + k.toNat % 10 := by
    show (48 + k.toNat % 10) % 256 = _
    omega
  rw [this]; omega
theorem markText_ok (k : Int) (h0 : 0 ≤ k) (h1 : k ≤ 4611686018427387904) : Fn Try.prog [] 152 [.sc (.int .i64 k)] [] (ret [.sc (.string (txtM k))] []) := by
  have hr : txtM k = match decide (k ≤ 0) with
    | true => ⟨#[109, 48]⟩
    | false => (⟨#[109]⟩ : ByteArray) ++ figs 20 (k, .empty) := rfl
  generalize txtM k = R at *
  refine fn_of Try.func152 (by kernel_rfl) ?_
  conv => whnf
  refine ifP_of (fun c0 => ?_) (fun c0 => ?_)
  · rw [c0] at hr
    subst hr
    conv => whnf
    exact ⟨rfl, rfl⟩
  rw [c0] at hr
  dsimp only at hr
  generalize hF : figs 20 (k, .empty) = F at *
  conv => whnf
  refine loop_of (A := Nat × Int × ByteArray) (fun x => ⟨[(0, .sc (.int .i64 x.2.1)), (3, .sc (.string x.2.2))], [], 0, 20, 0⟩) (fun x => x.2.1.toNat) (fun x => 0 ≤ x.2.1 ∧ x.2.1 < 10 ^ x.1 ∧ x.2.1 ≤ 4611686018427387904 ∧ x.2.2.size + x.1 ≤ 20 ∧ figs x.1 (x.2.1, x.2.2) = F) (20, k, .empty) rfl ⟨h0, by show k < 10 ^ 20; omega, h1, Nat.le_refl 20, hF⟩ ?_
  clear hF h0 h1 c0
  intro ⟨n, k, s⟩ ⟨h0, h2, h1, h3, hF⟩ X ih
  dsimp only at h0 h2 h1 h3 hF
  conv => whnf
  refine ifP_of (fun c1 => ?_) (fun c1 => ?_)
  · have c1' : k > 0 := of_decide_eq_true c1
    obtain ⟨n, rfl⟩ : ∃ m, n = m + 1 := ⟨n - 1, by
      rcases n with _ | n
      · have : k < 1 := h2
        omega
      · omega⟩
    rw [figs, show decide ((k, s).1 > 0) = true from c1] at hF
    have hq : IntKind.i64.wrap (k.tdiv 10) = k / 10 := by rw [Int.tdiv_eq_ediv_of_nonneg (by omega)]; exact wrap64 (by omega) (by omega)
    have hb := fig_byte c1'
    have hsz : (⟨#[(48 + k.toNat % 10).toUInt8]⟩ : ByteArray).size = 1 := rfl
    have h4 : k / 10 < 10 ^ n := by
      rw [Int.pow_succ] at h2
      omega
    have fin := ih (n, k / 10, (⟨#[(48 + k.toNat % 10).toUInt8]⟩ : ByteArray) ++ s) ⟨by dsimp only; omega, h4, by dsimp only; omega, by dsimp only; rw [ByteArray.size_append, hsz]; omega, by
      rw [← hF]
      show figs n (k / 10, _) = figs n (figF (k, s))
      rw [figF, hq]⟩ (by dsimp only; omega)
    dsimp only at fin
    rw [← hq] at fin
    clear ih hF
    conv => whnf
    refine ⟨[(48 + k.toNat % 10).toUInt8], ?_, ?_⟩
    · rw [hb]; rfl
    conv => whnf
    refine chkP_of ?hchk ?_
    case hchk => first | exact decide_eq_true (by omega) | (simp; done) | (simp; omega) | exact decide_eq_true (show (⟨#[(48 + k.toNat % 10).toUInt8]⟩ : ByteArray).size + s.size ≤ 9223372036854775807 by rw [hsz]; omega)
    conv => whnf
    exact fin
  · have c1' : ¬ k > 0 := of_decide_eq_false c1
    have h5 : s = F := by
      rw [← hF]
      cases n with
      | zero => rfl
      | succ n => rw [figs, show decide ((k, s).1 > 0) = false from c1]
    subst h5
    conv => whnf
    refine chkP_of ?hchk ?_
    case hchk => first | exact decide_eq_true (by omega) | (simp; done) | (simp; omega) | exact decide_eq_true (show (⟨#[109]⟩ : ByteArray).size + s.size ≤ 9223372036854775807 by have : (⟨#[109]⟩ : ByteArray).size = 1 := rfl; rw [this]; omega)
    conv => whnf
    subst hr
    exact ⟨rfl, rfl⟩
theorem markIntS_ok (l : List Int) (k : Int) (h0 : 0 ≤ k) (hb : k + ((l.length : Nat) : Int) ≤ 4611686018427387904) : Fn Try.prog [] 133 [.hdr 0 [], .sc (.int .i64 k)] [⟨intC l, true, 1, false⟩] (ret [.sc (.int .i64 (k + ((l.length : Nat) : Int)))] [⟨intC (intM l k), true, 1, false⟩]) := by
  have hl : l.length ≤ 4611686018427387904 := by omega
  generalize hF : intM l k = F
  generalize hK : k + ((l.length : Nat) : Int) = K at *
  refine fn_of Try.func133 (by kernel_rfl) ?_
  conv => whnf
  refine loop_of (A := List Int × List Int × Int) (eM 1 19 intC) (fun x => x.2.1.length) (fun x => x.1 ++ intM x.2.1 x.2.2 = F ∧ x.2.2 + ((x.2.1.length : Nat) : Int) = K ∧ 0 ≤ x.2.2 ∧ x.1.length + x.2.1.length ≤ 4611686018427387904) ([], l, k) rfl ⟨hF, hK, h0, by simpa using hl⟩ ?_
  clear hF hK h0 hl
  intro ⟨d, r, k⟩ ⟨h1, h2, h3, h4⟩ X ih
  dsimp only at h1 h2 h3 h4
  cases r with
  | nil =>
    have h6 : d = F := by rw [← h1]; simp [intM]
    rw [eM_eq, show intC [] = [] from rfl, List.append_nil]
    subst h6
    generalize intC d = D at *
    conv => whnf
    refine ifP_of (fun c1 => ?_) (fun c1 => ?_)
    · have := of_decide_eq_true c1; omega
    · conv => whnf
      exact ⟨il' (by rw [← h2]; simp), rfl⟩
  | cons a r =>
    rw [show List.length (a :: r) = r.length + 1 from by rfl] at h2
    rw [List.length_cons] at h4
    have fin := ih (d ++ [k], r, k + 1) ⟨by dsimp only; rw [← h1, intM, List.append_assoc]; rfl, by dsimp only; omega, by dsimp only; omega, by dsimp only; rw [List.length_append, List.length_singleton]; omega⟩ (by dsimp only; rw [List.length_cons]; omega)
    rw [eM_eq, ← intC_app] at fin
    rw [show ((intC (d ++ [k])).length : Nat) = (intC d).length + 1 by rw [intC_len, intC_len, List.length_append]; rfl] at fin
    rw [eM_eq]
    have hlen : (intC d).length = d.length := intC_len _
    have hw2 := hwn (n := (intC d).length) (by omega)
    clear ih h1
    generalize intC d = D at *
    rw [show intC (a :: r) = [.sc (.int .i64 a)] :: intC r from rfl]
    generalize intC r = R at *
    conv => whnf
    refine ifP_yes lenl ?_
    conv => whnf
    repeat' (first
      | (refine optP_of (gset _) ?_; (conv => whnf))
      | rw [pset]
      | rw [hwk (k := k) (by omega) (by omega)]
      | rw [hw2])
    exact fin
theorem heldIntS_ok (l : List Int) (k : Int) (h0 : 0 ≤ k) (hb : k + ((l.length : Nat) : Int) ≤ 4611686018427387904) : Fn Try.prog [] 158 [.sh 1 (intC (intM l k)), .sc (.int .i64 k)] [] (ret [.sc (.int .i64 (k + ((l.length : Nat) : Int)))] []) := by
  have hl : l.length ≤ 4611686018427387904 := by omega
  generalize hK : k + ((l.length : Nat) : Int) = K at *
  refine fn_of Try.func158 (by kernel_rfl) ?_
  conv => whnf
  refine loop_of (A := List (List V) × List Int × Int) (eK 1 21 (fun r k => intC (intM r k))) (fun x => x.2.1.length) (fun x => x.2.2 + ((x.2.1.length : Nat) : Int) = K ∧ 0 ≤ x.2.2 ∧ x.1.length + x.2.1.length ≤ 4611686018427387904) ([], l, k) rfl ⟨hK, h0, by simpa using hl⟩ ?_
  clear hK h0 hl
  intro ⟨D, r, k⟩ ⟨h2, h3, h4⟩ X ih
  dsimp only at h2 h3 h4
  cases r with
  | nil =>
    rw [eK_eq, show intC (intM [] k) = [] from by rw [intM]; rfl, List.append_nil]
    conv => whnf
    refine ifP_of (fun c1 => ?_) (fun c1 => ?_)
    · have := of_decide_eq_true c1; omega
    · conv => whnf
      exact ⟨il' (by rw [← h2]; simp), rfl⟩
  | cons a r =>
    rw [show List.length (a :: r) = r.length + 1 from by rfl] at h2
    rw [List.length_cons] at h4
    have fin := ih (D ++ [[.sc (.int .i64 k)]], r, k + 1) ⟨by dsimp only; omega, by dsimp only; omega, by dsimp only; rw [List.length_append, List.length_singleton]; omega⟩ (by dsimp only; rw [List.length_cons]; omega)
    rw [eK_eq, List.append_assoc, List.length_append, List.length_singleton] at fin
    rw [eK_eq, show intC (intM (a :: r) k) = [.sc (.int .i64 k)] :: intC (intM r (k + 1)) from by rw [intM, intC_cons]]
    have fin : X ⟨[(0, .sh 1 (D ++ [.sc (.int .i64 k)] :: intC (intM r (k + 1)))), (1, .sc (.int .i64 (k + 1))), (5, .sc (.int .i64 ((D.length + 1 : Nat) : Int)))], [], 0, 21, 0⟩ := fin
    have hw2 := hwn (n := D.length) (by omega)
    clear ih
    generalize intC (intM r (k + 1)) = R at *
    conv => whnf
    refine ifP_yes lenl ?_
    conv => whnf
    repeat' (first
      | (refine optP_of (gset _) ?_; (conv => whnf))
      | rw [hwk (k := k) (by omega) (by omega)]
      | rw [hw2]
      | (refine ifP_no (neI _) ?_; (conv => whnf))
      | (refine ifP_no (neB _) ?_; (conv => whnf))
      | (refine ifP_no (neS _) ?_; (conv => whnf))
      | (refine ifP_no (decide_eq_false (by omega)) ?_; (conv => whnf)))
    exact fin
theorem markStringS_ok (l : List ByteArray) (k : Int) (h0 : 0 ≤ k) (hb : k + ((l.length : Nat) : Int) ≤ 4611686018427387904) : Fn Try.prog [] 154 [.hdr 0 [], .sc (.int .i64 k)] [⟨strC l, true, 1, false⟩] (ret [.sc (.int .i64 (k + ((l.length : Nat) : Int)))] [⟨strC (strM l k), true, 1, false⟩]) := by
  have hl : l.length ≤ 4611686018427387904 := by omega
  generalize hF : strM l k = F
  generalize hK : k + ((l.length : Nat) : Int) = K at *
  refine fn_of Try.func154 (by kernel_rfl) ?_
  conv => whnf
  refine loop_of (A := List ByteArray × List ByteArray × Int) (eM 1 20 strC) (fun x => x.2.1.length) (fun x => x.1 ++ strM x.2.1 x.2.2 = F ∧ x.2.2 + ((x.2.1.length : Nat) : Int) = K ∧ 0 ≤ x.2.2 ∧ x.1.length + x.2.1.length ≤ 4611686018427387904) ([], l, k) rfl ⟨hF, hK, h0, by simpa using hl⟩ ?_
  clear hF hK h0 hl
  intro ⟨d, r, k⟩ ⟨h1, h2, h3, h4⟩ X ih
  dsimp only at h1 h2 h3 h4
  cases r with
  | nil =>
    have h6 : d = F := by rw [← h1]; simp [strM]
    rw [eM_eq, show strC [] = [] from rfl, List.append_nil]
    subst h6
    generalize strC d = D at *
    conv => whnf
    refine ifP_of (fun c1 => ?_) (fun c1 => ?_)
    · have := of_decide_eq_true c1; omega
    · conv => whnf
      exact ⟨il' (by rw [← h2]; simp), rfl⟩
  | cons a r =>
    rw [show List.length (a :: r) = r.length + 1 from by rfl] at h2
    rw [List.length_cons] at h4
    have fin := ih (d ++ [(txtM k)], r, k + 1) ⟨by dsimp only; rw [← h1, strM, List.append_assoc]; rfl, by dsimp only; omega, by dsimp only; omega, by dsimp only; rw [List.length_append, List.length_singleton]; omega⟩ (by dsimp only; rw [List.length_cons]; omega)
    rw [eM_eq, ← strC_app] at fin
    rw [show ((strC (d ++ [(txtM k)])).length : Nat) = (strC d).length + 1 by rw [strC_len, strC_len, List.length_append]; rfl] at fin
    rw [eM_eq]
    have hlen : (strC d).length = d.length := strC_len _
    have hw2 := hwn (n := (strC d).length) (by omega)
    clear ih h1
    generalize strC d = D at *
    rw [show strC (a :: r) = [.sc (.string a)] :: strC r from rfl]
    generalize strC r = R at *
    conv => whnf
    refine ifP_yes lenl ?_
    conv => whnf
    repeat' (first
      | (refine optP_of (gset _) ?_; (conv => whnf))
      | (refine Fn.use (markText_ok k (by omega) (by omega)) ?_; (conv => whnf); (first | refine ⟨trivial, ?_⟩ | refine ⟨⟨rfl, clr_of rfl⟩, ?_⟩); (conv => whnf))
      | rw [pset]
      | rw [hwk (k := k) (by omega) (by omega)]
      | rw [hw2])
    exact fin
theorem heldStringS_ok (l : List ByteArray) (k : Int) (h0 : 0 ≤ k) (hb : k + ((l.length : Nat) : Int) ≤ 4611686018427387904) : Fn Try.prog [] 157 [.sh 1 (strC (strM l k)), .sc (.int .i64 k)] [] (ret [.sc (.int .i64 (k + ((l.length : Nat) : Int)))] []) := by
  have hl : l.length ≤ 4611686018427387904 := by omega
  generalize hK : k + ((l.length : Nat) : Int) = K at *
  refine fn_of Try.func157 (by kernel_rfl) ?_
  conv => whnf
  refine loop_of (A := List (List V) × List ByteArray × Int) (eK 1 22 (fun r k => strC (strM r k))) (fun x => x.2.1.length) (fun x => x.2.2 + ((x.2.1.length : Nat) : Int) = K ∧ 0 ≤ x.2.2 ∧ x.1.length + x.2.1.length ≤ 4611686018427387904) ([], l, k) rfl ⟨hK, h0, by simpa using hl⟩ ?_
  clear hK h0 hl
  intro ⟨D, r, k⟩ ⟨h2, h3, h4⟩ X ih
  dsimp only at h2 h3 h4
  cases r with
  | nil =>
    rw [eK_eq, show strC (strM [] k) = [] from by rw [strM]; rfl, List.append_nil]
    conv => whnf
    refine ifP_of (fun c1 => ?_) (fun c1 => ?_)
    · have := of_decide_eq_true c1; omega
    · conv => whnf
      exact ⟨il' (by rw [← h2]; simp), rfl⟩
  | cons a r =>
    rw [show List.length (a :: r) = r.length + 1 from by rfl] at h2
    rw [List.length_cons] at h4
    have fin := ih (D ++ [[.sc (.string (txtM k))]], r, k + 1) ⟨by dsimp only; omega, by dsimp only; omega, by dsimp only; rw [List.length_append, List.length_singleton]; omega⟩ (by dsimp only; rw [List.length_cons]; omega)
    rw [eK_eq, List.append_assoc, List.length_append, List.length_singleton] at fin
    rw [eK_eq, show strC (strM (a :: r) k) = [.sc (.string (txtM k))] :: strC (strM r (k + 1)) from by rw [strM, strC_cons]]
    have fin : X ⟨[(0, .sh 1 (D ++ [.sc (.string (txtM k))] :: strC (strM r (k + 1)))), (1, .sc (.int .i64 (k + 1))), (5, .sc (.int .i64 ((D.length + 1 : Nat) : Int)))], [], 0, 22, 0⟩ := fin
    have hw2 := hwn (n := D.length) (by omega)
    clear ih
    generalize strC (strM r (k + 1)) = R at *
    conv => whnf
    refine ifP_yes lenl ?_
    conv => whnf
    repeat' (first
      | (refine optP_of (gset _) ?_; (conv => whnf))
      | (refine Fn.use (markText_ok k (by omega) (by omega)) ?_; (conv => whnf); (first | refine ⟨trivial, ?_⟩ | refine ⟨⟨rfl, clr_of rfl⟩, ?_⟩); (conv => whnf))
      | rw [hwk (k := k) (by omega) (by omega)]
      | rw [hw2]
      | (refine ifP_no (neI _) ?_; (conv => whnf))
      | (refine ifP_no (neB _) ?_; (conv => whnf))
      | (refine ifP_no (neS _) ?_; (conv => whnf))
      | (refine ifP_no (decide_eq_false (by omega)) ?_; (conv => whnf)))
    exact fin
def EnumVal.cn : EnumVal → Nat
  | ⟨name, num, pos⟩ => 1 + 1 + 1
def EnumVal.cns : List EnumVal → Nat
  | [] => 0
  | a :: l => a.cn + EnumVal.cns l
def EnumVal.mk' : EnumVal → Int → EnumVal
  | ⟨name, num, pos⟩, k => ⟨txtM (k), k + 1, k + 1 + 1⟩
def EnumVal.mks : List EnumVal → Int → List EnumVal
  | [], _ => []
  | a :: l, k => a.mk' k :: EnumVal.mks l (k + ((a.cn : Nat) : Int))
theorem EnumVal.cns_ge : ∀ (l : List EnumVal), l.length ≤ EnumVal.cns l
  | [] => Nat.zero_le _
  | ⟨name, num, pos⟩ :: l => by
    have := EnumVal.cns_ge l
    rw [List.length_cons, EnumVal.cns, EnumVal.cn]; omega
theorem EnumVal.mks_len : ∀ (l : List EnumVal) (k : Int), (EnumVal.mks l k).length = l.length
  | [], _ => by rw [EnumVal.mks]
  | a :: l, k => by rw [EnumVal.mks, List.length_cons, List.length_cons, EnumVal.mks_len l]
theorem EnumVal.css_cons (a : EnumVal) (l : List EnumVal) : EnumVal.css (a :: l) = a.cells :: EnumVal.css l := by rw [EnumVal.css, EnumVal.cs_eq]
theorem EnumVal.css_app (d : List EnumVal) (a : EnumVal) (R : List (List V)) : EnumVal.css d ++ a.cells :: R = EnumVal.css (d ++ [a]) ++ R := by
  induction d with
  | nil => rw [EnumVal.css, List.nil_append, List.nil_append, EnumVal.css, EnumVal.cs_eq, EnumVal.css]; rfl
  | cons b d ih => rw [EnumVal.css, List.cons_append, List.cons_append, EnumVal.css, ih]; rfl
def Field.cn : Field → Nat
  | ⟨name, ty, num, rep, oneof, pos⟩ => 1 + 1 + 1 + 1 + 1 + 1
def Field.cns : List Field → Nat
  | [] => 0
  | a :: l => a.cn + Field.cns l
def Field.mk' : Field → Int → Field
  | ⟨name, ty, num, rep, oneof, pos⟩, k => ⟨txtM (k), txtM (k + 1), k + 1 + 1, ((k + 1 + 1 + 1).tmod 3 == 0), txtM (k + 1 + 1 + 1 + 1), k + 1 + 1 + 1 + 1 + 1⟩
def Field.mks : List Field → Int → List Field
  | [], _ => []
  | a :: l, k => a.mk' k :: Field.mks l (k + ((a.cn : Nat) : Int))
theorem Field.cns_ge : ∀ (l : List Field), l.length ≤ Field.cns l
  | [] => Nat.zero_le _
  | ⟨name, ty, num, rep, oneof, pos⟩ :: l => by
    have := Field.cns_ge l
    rw [List.length_cons, Field.cns, Field.cn]; omega
theorem Field.mks_len : ∀ (l : List Field) (k : Int), (Field.mks l k).length = l.length
  | [], _ => by rw [Field.mks]
  | a :: l, k => by rw [Field.mks, List.length_cons, List.length_cons, Field.mks_len l]
theorem Field.css_cons (a : Field) (l : List Field) : Field.css (a :: l) = a.cells :: Field.css l := by rw [Field.css, Field.cs_eq]
theorem Field.css_app (d : List Field) (a : Field) (R : List (List V)) : Field.css d ++ a.cells :: R = Field.css (d ++ [a]) ++ R := by
  induction d with
  | nil => rw [Field.css, List.nil_append, List.nil_append, Field.css, Field.cs_eq, Field.css]; rfl
  | cons b d ih => rw [Field.css, List.cons_append, List.cons_append, Field.css, ih]; rfl
def Enum.cn : Enum → Nat
  | ⟨name, vals, pos⟩ => 1 + EnumVal.cns vals + 1
def Enum.cns : List Enum → Nat
  | [] => 0
  | a :: l => a.cn + Enum.cns l
def Enum.mk' : Enum → Int → Enum
  | ⟨name, vals, pos⟩, k => ⟨txtM (k), EnumVal.mks vals (k + 1), k + 1 + ((EnumVal.cns vals : Nat) : Int)⟩
def Enum.mks : List Enum → Int → List Enum
  | [], _ => []
  | a :: l, k => a.mk' k :: Enum.mks l (k + ((a.cn : Nat) : Int))
theorem Enum.cns_ge : ∀ (l : List Enum), l.length ≤ Enum.cns l
  | [] => Nat.zero_le _
  | ⟨name, vals, pos⟩ :: l => by
    have := Enum.cns_ge l
    rw [List.length_cons, Enum.cns, Enum.cn]; omega
theorem Enum.mks_len : ∀ (l : List Enum) (k : Int), (Enum.mks l k).length = l.length
  | [], _ => by rw [Enum.mks]
  | a :: l, k => by rw [Enum.mks, List.length_cons, List.length_cons, Enum.mks_len l]
theorem Enum.css_cons (a : Enum) (l : List Enum) : Enum.css (a :: l) = a.cells :: Enum.css l := by rw [Enum.css, Enum.cs_eq]
theorem Enum.css_app (d : List Enum) (a : Enum) (R : List (List V)) : Enum.css d ++ a.cells :: R = Enum.css (d ++ [a]) ++ R := by
  induction d with
  | nil => rw [Enum.css, List.nil_append, List.nil_append, Enum.css, Enum.cs_eq, Enum.css]; rfl
  | cons b d ih => rw [Enum.css, List.cons_append, List.cons_append, Enum.css, ih]; rfl
mutual
def Message.cn : Message → Nat
  | ⟨name, fields, oneofs, reserved, messages, enums, pos⟩ => 1 + Field.cns fields + oneofs.length + reserved.length + Message.cns messages + Enum.cns enums + 1
def Message.cns : List Message → Nat
  | [] => 0
  | a :: l => a.cn + Message.cns l
end
mutual
def Message.mk' : Message → Int → Message
  | ⟨name, fields, oneofs, reserved, messages, enums, pos⟩, k => ⟨txtM (k), Field.mks fields (k + 1), strM oneofs (k + 1 + ((Field.cns fields : Nat) : Int)), intM reserved (k + 1 + ((Field.cns fields : Nat) : Int) + ((oneofs.length : Nat) : Int)), Message.mks messages (k + 1 + ((Field.cns fields : Nat) : Int) + ((oneofs.length : Nat) : Int) + ((reserved.length : Nat) : Int)), Enum.mks enums (k + 1 + ((Field.cns fields : Nat) : Int) + ((oneofs.length : Nat) : Int) + ((reserved.length : Nat) : Int) + ((Message.cns messages : Nat) : Int)), k + 1 + ((Field.cns fields : Nat) : Int) + ((oneofs.length : Nat) : Int) + ((reserved.length : Nat) : Int) + ((Message.cns messages : Nat) : Int) + ((Enum.cns enums : Nat) : Int)⟩
def Message.mks : List Message → Int → List Message
  | [], _ => []
  | a :: l, k => a.mk' k :: Message.mks l (k + ((a.cn : Nat) : Int))
end
theorem Message.cns_ge : ∀ (l : List Message), l.length ≤ Message.cns l
  | [] => Nat.zero_le _
  | ⟨name, fields, oneofs, reserved, messages, enums, pos⟩ :: l => by
    have := Message.cns_ge l
    rw [List.length_cons, Message.cns, Message.cn]; omega
theorem Message.mks_len : ∀ (l : List Message) (k : Int), (Message.mks l k).length = l.length
  | [], _ => by rw [Message.mks]
  | a :: l, k => by rw [Message.mks, List.length_cons, List.length_cons, Message.mks_len l]
theorem Message.css_cons (a : Message) (l : List Message) : Message.css (a :: l) = a.cells :: Message.css l := by rw [Message.css, Message.cs_eq]
theorem Message.css_app (d : List Message) (a : Message) (R : List (List V)) : Message.css d ++ a.cells :: R = Message.css (d ++ [a]) ++ R := by
  induction d with
  | nil => rw [Message.css, List.nil_append, List.nil_append, Message.css, Message.cs_eq, Message.css]; rfl
  | cons b d ih => rw [Message.css, List.cons_append, List.cons_append, Message.css, ih]; rfl
theorem markEnumValS_ok (l : List EnumVal) (k : Int) (h0 : 0 ≤ k) (hb : k + ((EnumVal.cns l : Nat) : Int) ≤ 4611686018427387904) : Fn Try.prog [] 155 [.hdr 0 [], .sc (.int .i64 k)] [⟨EnumVal.css l, true, 3, false⟩] (ret [.sc (.int .i64 (k + ((EnumVal.cns l : Nat) : Int)))] [⟨EnumVal.css (EnumVal.mks l k), true, 3, false⟩]) := by
  have hl : l.length ≤ 4611686018427387904 := by have := EnumVal.cns_ge l; omega
  generalize hF : EnumVal.mks l k = F
  generalize hK : k + ((EnumVal.cns l : Nat) : Int) = K at *
  refine fn_of Try.func155 (by kernel_rfl) ?_
  conv => whnf
  refine loop_of (A := List EnumVal × List EnumVal × Int) (eM 3 35 EnumVal.css) (fun x => x.2.1.length) (fun x => x.1 ++ EnumVal.mks x.2.1 x.2.2 = F ∧ x.2.2 + ((EnumVal.cns x.2.1 : Nat) : Int) = K ∧ 0 ≤ x.2.2 ∧ x.1.length + x.2.1.length ≤ 4611686018427387904) ([], l, k) rfl ⟨hF, hK, h0, by simpa using hl⟩ ?_
  clear hF hK h0 hl
  intro ⟨d, r, k⟩ ⟨h1, h2, h3, h4⟩ X ih
  dsimp only at h1 h2 h3 h4
  cases r with
  | nil =>
    have h6 : d = F := by rw [← h1]; simp [EnumVal.mks]
    rw [eM_eq, show EnumVal.css [] = [] from rfl, List.append_nil]
    subst h6
    generalize EnumVal.css d = D at *
    conv => whnf
    refine ifP_of (fun c1 => ?_) (fun c1 => ?_)
    · have := of_decide_eq_true c1; omega
    · conv => whnf
      exact ⟨il' (by rw [← h2]; simp [EnumVal.cns]), rfl⟩
  | cons a r =>
    rw [show EnumVal.cns (a :: r) = a.cn + EnumVal.cns r from by rw [EnumVal.cns]] at h2
    rw [List.length_cons] at h4
    have fin := ih (d ++ [(a.mk' k)], r, k + ((a.cn : Nat) : Int)) ⟨by dsimp only; rw [← h1, EnumVal.mks, List.append_assoc]; rfl, by dsimp only; omega, by dsimp only; omega, by dsimp only; rw [List.length_append, List.length_singleton]; omega⟩ (by dsimp only; rw [List.length_cons]; omega)
    rw [eM_eq, ← EnumVal.css_app] at fin
    rw [show ((EnumVal.css (d ++ [(a.mk' k)])).length : Nat) = (EnumVal.css d).length + 1 by rw [EnumVal.css_len, EnumVal.css_len, List.length_append]; rfl] at fin
    rw [eM_eq]
    have hlen : (EnumVal.css d).length = d.length := EnumVal.css_len _
    have hw2 := hwn (n := (EnumVal.css d).length) (by omega)
    clear ih h1
    obtain ⟨name, num, pos⟩ := a
    have hcn : EnumVal.cn ⟨name, num, pos⟩ = 1 + 1 + 1 := by rw [EnumVal.cn]
    rw [hcn] at h2
    rw [show k + ((EnumVal.cn ⟨name, num, pos⟩ : Nat) : Int) = k + 1 + 1 + 1 from by rw [hcn]; omega, show EnumVal.mk' ⟨name, num, pos⟩ k = ⟨txtM (k), k + 1, k + 1 + 1⟩ from by rw [EnumVal.mk']] at fin
    generalize EnumVal.css d = D at *
    rw [show EnumVal.css (⟨name, num, pos⟩ :: r) = EnumVal.cells ⟨name, num, pos⟩ :: EnumVal.css r from EnumVal.css_cons ..]
    generalize EnumVal.css r = R at *
    conv => whnf
    refine ifP_yes lenl ?_
    conv => whnf
    repeat' (first
      | (refine optP_of (gset _) ?_; (conv => whnf))
      | (refine Fn.use (markText_ok (k) (by omega) (by omega)) ?_; (conv => whnf); (first | refine ⟨trivial, ?_⟩ | refine ⟨⟨rfl, clr_of rfl⟩, ?_⟩); (conv => whnf))
      | rw [pset]
      | rw [hwk (k := k) (by omega) (by omega)]
      | rw [hwk (k := k + 1) (by omega) (by omega)]
      | rw [hwk (k := k + 1 + 1) (by omega) (by omega)]
      | rw [hw2])
    exact fin
theorem heldEnumValS_ok (l : List EnumVal) (k : Int) (h0 : 0 ≤ k) (hb : k + ((EnumVal.cns l : Nat) : Int) ≤ 4611686018427387904) : Fn Try.prog [] 159 [.sh 3 (EnumVal.css (EnumVal.mks l k)), .sc (.int .i64 k)] [] (ret [.sc (.int .i64 (k + ((EnumVal.cns l : Nat) : Int)))] []) := by
  have hl : l.length ≤ 4611686018427387904 := by have := EnumVal.cns_ge l; omega
  generalize hK : k + ((EnumVal.cns l : Nat) : Int) = K at *
  refine fn_of Try.func159 (by kernel_rfl) ?_
  conv => whnf
  refine loop_of (A := List (List V) × List EnumVal × Int) (eK 3 41 (fun r k => EnumVal.css (EnumVal.mks r k))) (fun x => x.2.1.length) (fun x => x.2.2 + ((EnumVal.cns x.2.1 : Nat) : Int) = K ∧ 0 ≤ x.2.2 ∧ x.1.length + x.2.1.length ≤ 4611686018427387904) ([], l, k) rfl ⟨hK, h0, by simpa using hl⟩ ?_
  clear hK h0 hl
  intro ⟨D, r, k⟩ ⟨h2, h3, h4⟩ X ih
  dsimp only at h2 h3 h4
  cases r with
  | nil =>
    rw [eK_eq, show EnumVal.css (EnumVal.mks [] k) = [] from by rw [EnumVal.mks]; rfl, List.append_nil]
    conv => whnf
    refine ifP_of (fun c1 => ?_) (fun c1 => ?_)
    · have := of_decide_eq_true c1; omega
    · conv => whnf
      exact ⟨il' (by rw [← h2]; simp [EnumVal.cns]), rfl⟩
  | cons a r =>
    rw [show EnumVal.cns (a :: r) = a.cn + EnumVal.cns r from by rw [EnumVal.cns]] at h2
    rw [List.length_cons] at h4
    have fin := ih (D ++ [EnumVal.cells (a.mk' k)], r, k + ((a.cn : Nat) : Int)) ⟨by dsimp only; omega, by dsimp only; omega, by dsimp only; rw [List.length_append, List.length_singleton]; omega⟩ (by dsimp only; rw [List.length_cons]; omega)
    rw [eK_eq, List.append_assoc, List.length_append, List.length_singleton] at fin
    rw [eK_eq, show EnumVal.css (EnumVal.mks (a :: r) k) = EnumVal.cells (a.mk' k) :: EnumVal.css (EnumVal.mks r (k + ((a.cn : Nat) : Int))) from by rw [EnumVal.mks, EnumVal.css_cons]]
    have fin : X ⟨[(0, .sh 3 (D ++ EnumVal.cells (a.mk' k) :: EnumVal.css (EnumVal.mks r (k + ((a.cn : Nat) : Int))))), (1, .sc (.int .i64 (k + ((a.cn : Nat) : Int)))), (5, .sc (.int .i64 ((D.length + 1 : Nat) : Int)))], [], 0, 41, 0⟩ := fin
    have hw2 := hwn (n := D.length) (by omega)
    clear ih
    obtain ⟨name, num, pos⟩ := a
    have hcn : EnumVal.cn ⟨name, num, pos⟩ = 1 + 1 + 1 := by rw [EnumVal.cn]
    rw [hcn] at h2
    rw [show k + ((EnumVal.cn ⟨name, num, pos⟩ : Nat) : Int) = k + 1 + 1 + 1 from by rw [hcn]; omega, show EnumVal.mk' ⟨name, num, pos⟩ k = ⟨txtM (k), k + 1, k + 1 + 1⟩ from by rw [EnumVal.mk']] at fin
    rw [show k + ((EnumVal.cn ⟨name, num, pos⟩ : Nat) : Int) = k + 1 + 1 + 1 from by rw [hcn]; omega, show EnumVal.mk' ⟨name, num, pos⟩ k = ⟨txtM (k), k + 1, k + 1 + 1⟩ from by rw [EnumVal.mk']]
    generalize EnumVal.css (EnumVal.mks r (k + 1 + 1 + 1)) = R at *
    conv => whnf
    refine ifP_yes lenl ?_
    conv => whnf
    repeat' (first
      | (refine optP_of (gset _) ?_; (conv => whnf))
      | (refine Fn.use (markText_ok (k) (by omega) (by omega)) ?_; (conv => whnf); (first | refine ⟨trivial, ?_⟩ | refine ⟨⟨rfl, clr_of rfl⟩, ?_⟩); (conv => whnf))
      | rw [hwk (k := k) (by omega) (by omega)]
      | rw [hwk (k := k + 1) (by omega) (by omega)]
      | rw [hwk (k := k + 1 + 1) (by omega) (by omega)]
      | rw [hw2]
      | (refine ifP_no (neI _) ?_; (conv => whnf))
      | (refine ifP_no (neB _) ?_; (conv => whnf))
      | (refine ifP_no (neS _) ?_; (conv => whnf))
      | (refine ifP_no (decide_eq_false (by omega)) ?_; (conv => whnf)))
    exact fin
theorem markFieldS_ok (l : List Field) (k : Int) (h0 : 0 ≤ k) (hb : k + ((Field.cns l : Nat) : Int) ≤ 4611686018427387904) : Fn Try.prog [] 153 [.hdr 0 [], .sc (.int .i64 k)] [⟨Field.css l, true, 6, false⟩] (ret [.sc (.int .i64 (k + ((Field.cns l : Nat) : Int)))] [⟨Field.css (Field.mks l k), true, 6, false⟩]) := by
  have hl : l.length ≤ 4611686018427387904 := by have := Field.cns_ge l; omega
  generalize hF : Field.mks l k = F
  generalize hK : k + ((Field.cns l : Nat) : Int) = K at *
  refine fn_of Try.func153 (by kernel_rfl) ?_
  conv => whnf
  refine loop_of (A := List Field × List Field × Int) (eM 6 60 Field.css) (fun x => x.2.1.length) (fun x => x.1 ++ Field.mks x.2.1 x.2.2 = F ∧ x.2.2 + ((Field.cns x.2.1 : Nat) : Int) = K ∧ 0 ≤ x.2.2 ∧ x.1.length + x.2.1.length ≤ 4611686018427387904) ([], l, k) rfl ⟨hF, hK, h0, by simpa using hl⟩ ?_
  clear hF hK h0 hl
  intro ⟨d, r, k⟩ ⟨h1, h2, h3, h4⟩ X ih
  dsimp only at h1 h2 h3 h4
  cases r with
  | nil =>
    have h6 : d = F := by rw [← h1]; simp [Field.mks]
    rw [eM_eq, show Field.css [] = [] from rfl, List.append_nil]
    subst h6
    generalize Field.css d = D at *
    conv => whnf
    refine ifP_of (fun c1 => ?_) (fun c1 => ?_)
    · have := of_decide_eq_true c1; omega
    · conv => whnf
      exact ⟨il' (by rw [← h2]; simp [Field.cns]), rfl⟩
  | cons a r =>
    rw [show Field.cns (a :: r) = a.cn + Field.cns r from by rw [Field.cns]] at h2
    rw [List.length_cons] at h4
    have fin := ih (d ++ [(a.mk' k)], r, k + ((a.cn : Nat) : Int)) ⟨by dsimp only; rw [← h1, Field.mks, List.append_assoc]; rfl, by dsimp only; omega, by dsimp only; omega, by dsimp only; rw [List.length_append, List.length_singleton]; omega⟩ (by dsimp only; rw [List.length_cons]; omega)
    rw [eM_eq, ← Field.css_app] at fin
    rw [show ((Field.css (d ++ [(a.mk' k)])).length : Nat) = (Field.css d).length + 1 by rw [Field.css_len, Field.css_len, List.length_append]; rfl] at fin
    rw [eM_eq]
    have hlen : (Field.css d).length = d.length := Field.css_len _
    have hw2 := hwn (n := (Field.css d).length) (by omega)
    clear ih h1
    obtain ⟨name, ty, num, rep, oneof, pos⟩ := a
    have hcn : Field.cn ⟨name, ty, num, rep, oneof, pos⟩ = 1 + 1 + 1 + 1 + 1 + 1 := by rw [Field.cn]
    rw [hcn] at h2
    rw [show k + ((Field.cn ⟨name, ty, num, rep, oneof, pos⟩ : Nat) : Int) = k + 1 + 1 + 1 + 1 + 1 + 1 from by rw [hcn]; omega, show Field.mk' ⟨name, ty, num, rep, oneof, pos⟩ k = ⟨txtM (k), txtM (k + 1), k + 1 + 1, ((k + 1 + 1 + 1).tmod 3 == 0), txtM (k + 1 + 1 + 1 + 1), k + 1 + 1 + 1 + 1 + 1⟩ from by rw [Field.mk']] at fin
    generalize Field.css d = D at *
    rw [show Field.css (⟨name, ty, num, rep, oneof, pos⟩ :: r) = Field.cells ⟨name, ty, num, rep, oneof, pos⟩ :: Field.css r from Field.css_cons ..]
    generalize Field.css r = R at *
    conv => whnf
    refine ifP_yes lenl ?_
    conv => whnf
    repeat' (first
      | (refine optP_of (gset _) ?_; (conv => whnf))
      | (refine Fn.use (markText_ok (k) (by omega) (by omega)) ?_; (conv => whnf); (first | refine ⟨trivial, ?_⟩ | refine ⟨⟨rfl, clr_of rfl⟩, ?_⟩); (conv => whnf))
      | (refine Fn.use (markText_ok (k + 1) (by omega) (by omega)) ?_; (conv => whnf); (first | refine ⟨trivial, ?_⟩ | refine ⟨⟨rfl, clr_of rfl⟩, ?_⟩); (conv => whnf))
      | (refine Fn.use (markText_ok (k + 1 + 1 + 1 + 1) (by omega) (by omega)) ?_; (conv => whnf); (first | refine ⟨trivial, ?_⟩ | refine ⟨⟨rfl, clr_of rfl⟩, ?_⟩); (conv => whnf))
      | rw [pset]
      | rw [hwk (k := k) (by omega) (by omega)]
      | rw [hwk (k := k + 1) (by omega) (by omega)]
      | rw [hwk (k := k + 1 + 1) (by omega) (by omega)]
      | rw [hwk (k := k + 1 + 1 + 1) (by omega) (by omega)]
      | rw [hwk (k := k + 1 + 1 + 1 + 1) (by omega) (by omega)]
      | rw [hwk (k := k + 1 + 1 + 1 + 1 + 1) (by omega) (by omega)]
      | rw [hw2])
    exact fin
theorem heldFieldS_ok (l : List Field) (k : Int) (h0 : 0 ≤ k) (hb : k + ((Field.cns l : Nat) : Int) ≤ 4611686018427387904) : Fn Try.prog [] 156 [.sh 6 (Field.css (Field.mks l k)), .sc (.int .i64 k)] [] (ret [.sc (.int .i64 (k + ((Field.cns l : Nat) : Int)))] []) := by
  have hl : l.length ≤ 4611686018427387904 := by have := Field.cns_ge l; omega
  generalize hK : k + ((Field.cns l : Nat) : Int) = K at *
  refine fn_of Try.func156 d156 ?_
  conv => whnf
  refine loop_of (A := List (List V) × List Field × Int) (eK 6 72 (fun r k => Field.css (Field.mks r k))) (fun x => x.2.1.length) (fun x => x.2.2 + ((Field.cns x.2.1 : Nat) : Int) = K ∧ 0 ≤ x.2.2 ∧ x.1.length + x.2.1.length ≤ 4611686018427387904) ([], l, k) rfl ⟨hK, h0, by simpa using hl⟩ ?_
  clear hK h0 hl
  intro ⟨D, r, k⟩ ⟨h2, h3, h4⟩ X ih
  dsimp only at h2 h3 h4
  cases r with
  | nil =>
    rw [eK_eq, show Field.css (Field.mks [] k) = [] from by rw [Field.mks]; rfl, List.append_nil]
    conv => whnf
    refine ifP_of (fun c1 => ?_) (fun c1 => ?_)
    · have := of_decide_eq_true c1; omega
    · conv => whnf
      exact ⟨il' (by rw [← h2]; simp [Field.cns]), rfl⟩
  | cons a r =>
    rw [show Field.cns (a :: r) = a.cn + Field.cns r from by rw [Field.cns]] at h2
    rw [List.length_cons] at h4
    have fin := ih (D ++ [Field.cells (a.mk' k)], r, k + ((a.cn : Nat) : Int)) ⟨by dsimp only; omega, by dsimp only; omega, by dsimp only; rw [List.length_append, List.length_singleton]; omega⟩ (by dsimp only; rw [List.length_cons]; omega)
    rw [eK_eq, List.append_assoc, List.length_append, List.length_singleton] at fin
    rw [eK_eq, show Field.css (Field.mks (a :: r) k) = Field.cells (a.mk' k) :: Field.css (Field.mks r (k + ((a.cn : Nat) : Int))) from by rw [Field.mks, Field.css_cons]]
    have fin : X ⟨[(0, .sh 6 (D ++ Field.cells (a.mk' k) :: Field.css (Field.mks r (k + ((a.cn : Nat) : Int))))), (1, .sc (.int .i64 (k + ((a.cn : Nat) : Int)))), (5, .sc (.int .i64 ((D.length + 1 : Nat) : Int)))], [], 0, 72, 0⟩ := fin
    have hw2 := hwn (n := D.length) (by omega)
    clear ih
    obtain ⟨name, ty, num, rep, oneof, pos⟩ := a
    have hcn : Field.cn ⟨name, ty, num, rep, oneof, pos⟩ = 1 + 1 + 1 + 1 + 1 + 1 := by rw [Field.cn]
    rw [hcn] at h2
    rw [show k + ((Field.cn ⟨name, ty, num, rep, oneof, pos⟩ : Nat) : Int) = k + 1 + 1 + 1 + 1 + 1 + 1 from by rw [hcn]; omega, show Field.mk' ⟨name, ty, num, rep, oneof, pos⟩ k = ⟨txtM (k), txtM (k + 1), k + 1 + 1, ((k + 1 + 1 + 1).tmod 3 == 0), txtM (k + 1 + 1 + 1 + 1), k + 1 + 1 + 1 + 1 + 1⟩ from by rw [Field.mk']] at fin
    rw [show k + ((Field.cn ⟨name, ty, num, rep, oneof, pos⟩ : Nat) : Int) = k + 1 + 1 + 1 + 1 + 1 + 1 from by rw [hcn]; omega, show Field.mk' ⟨name, ty, num, rep, oneof, pos⟩ k = ⟨txtM (k), txtM (k + 1), k + 1 + 1, ((k + 1 + 1 + 1).tmod 3 == 0), txtM (k + 1 + 1 + 1 + 1), k + 1 + 1 + 1 + 1 + 1⟩ from by rw [Field.mk']]
    generalize Field.css (Field.mks r (k + 1 + 1 + 1 + 1 + 1 + 1)) = R at *
    conv => whnf
    refine ifP_yes lenl ?_
    conv => whnf
    repeat' (first
      | (refine optP_of (gset _) ?_; (conv => whnf))
      | (refine Fn.use (markText_ok (k) (by omega) (by omega)) ?_; (conv => whnf); (first | refine ⟨trivial, ?_⟩ | refine ⟨⟨rfl, clr_of rfl⟩, ?_⟩); (conv => whnf))
      | (refine Fn.use (markText_ok (k + 1) (by omega) (by omega)) ?_; (conv => whnf); (first | refine ⟨trivial, ?_⟩ | refine ⟨⟨rfl, clr_of rfl⟩, ?_⟩); (conv => whnf))
      | (refine Fn.use (markText_ok (k + 1 + 1 + 1 + 1) (by omega) (by omega)) ?_; (conv => whnf); (first | refine ⟨trivial, ?_⟩ | refine ⟨⟨rfl, clr_of rfl⟩, ?_⟩); (conv => whnf))
      | rw [hwk (k := k) (by omega) (by omega)]
      | rw [hwk (k := k + 1) (by omega) (by omega)]
      | rw [hwk (k := k + 1 + 1) (by omega) (by omega)]
      | rw [hwk (k := k + 1 + 1 + 1) (by omega) (by omega)]
      | rw [hwk (k := k + 1 + 1 + 1 + 1) (by omega) (by omega)]
      | rw [hwk (k := k + 1 + 1 + 1 + 1 + 1) (by omega) (by omega)]
      | rw [hw2]
      | (refine ifP_no (neI _) ?_; (conv => whnf))
      | (refine ifP_no (neB _) ?_; (conv => whnf))
      | (refine ifP_no (neS _) ?_; (conv => whnf))
      | (refine ifP_no (decide_eq_false (by omega)) ?_; (conv => whnf)))
    exact fin
theorem markEnumS_ok (l : List Enum) (k : Int) (h0 : 0 ≤ k) (hb : k + ((Enum.cns l : Nat) : Int) ≤ 4611686018427387904) : Fn Try.prog [] 84 [.hdr 0 [], .sc (.int .i64 k)] [⟨Enum.css l, true, 3, false⟩] (ret [.sc (.int .i64 (k + ((Enum.cns l : Nat) : Int)))] [⟨Enum.css (Enum.mks l k), true, 3, false⟩]) := by
  have hl : l.length ≤ 4611686018427387904 := by have := Enum.cns_ge l; omega
  generalize hF : Enum.mks l k = F
  generalize hK : k + ((Enum.cns l : Nat) : Int) = K at *
  refine fn_of Try.func84 (by kernel_rfl) ?_
  conv => whnf
  refine loop_of (A := List Enum × List Enum × Int) (eM 3 35 Enum.css) (fun x => x.2.1.length) (fun x => x.1 ++ Enum.mks x.2.1 x.2.2 = F ∧ x.2.2 + ((Enum.cns x.2.1 : Nat) : Int) = K ∧ 0 ≤ x.2.2 ∧ x.1.length + x.2.1.length ≤ 4611686018427387904) ([], l, k) rfl ⟨hF, hK, h0, by simpa using hl⟩ ?_
  clear hF hK h0 hl
  intro ⟨d, r, k⟩ ⟨h1, h2, h3, h4⟩ X ih
  dsimp only at h1 h2 h3 h4
  cases r with
  | nil =>
    have h6 : d = F := by rw [← h1]; simp [Enum.mks]
    rw [eM_eq, show Enum.css [] = [] from rfl, List.append_nil]
    subst h6
    generalize Enum.css d = D at *
    conv => whnf
    refine ifP_of (fun c1 => ?_) (fun c1 => ?_)
    · have := of_decide_eq_true c1; omega
    · conv => whnf
      exact ⟨il' (by rw [← h2]; simp [Enum.cns]), rfl⟩
  | cons a r =>
    rw [show Enum.cns (a :: r) = a.cn + Enum.cns r from by rw [Enum.cns]] at h2
    rw [List.length_cons] at h4
    have fin := ih (d ++ [(a.mk' k)], r, k + ((a.cn : Nat) : Int)) ⟨by dsimp only; rw [← h1, Enum.mks, List.append_assoc]; rfl, by dsimp only; omega, by dsimp only; omega, by dsimp only; rw [List.length_append, List.length_singleton]; omega⟩ (by dsimp only; rw [List.length_cons]; omega)
    rw [eM_eq, ← Enum.css_app] at fin
    rw [show ((Enum.css (d ++ [(a.mk' k)])).length : Nat) = (Enum.css d).length + 1 by rw [Enum.css_len, Enum.css_len, List.length_append]; rfl] at fin
    rw [eM_eq]
    have hlen : (Enum.css d).length = d.length := Enum.css_len _
    have hw2 := hwn (n := (Enum.css d).length) (by omega)
    clear ih h1
    obtain ⟨name, vals, pos⟩ := a
    have hcn : Enum.cn ⟨name, vals, pos⟩ = 1 + EnumVal.cns vals + 1 := by rw [Enum.cn]
    rw [hcn] at h2
    rw [show k + ((Enum.cn ⟨name, vals, pos⟩ : Nat) : Int) = k + 1 + ((EnumVal.cns vals : Nat) : Int) + 1 from by rw [hcn]; omega, show Enum.mk' ⟨name, vals, pos⟩ k = ⟨txtM (k), EnumVal.mks vals (k + 1), k + 1 + ((EnumVal.cns vals : Nat) : Int)⟩ from by rw [Enum.mk']] at fin
    generalize Enum.css d = D at *
    rw [show Enum.css (⟨name, vals, pos⟩ :: r) = Enum.cells ⟨name, vals, pos⟩ :: Enum.css r from Enum.css_cons ..]
    generalize Enum.css r = R at *
    conv => whnf
    refine ifP_yes lenl ?_
    conv => whnf
    repeat' (first
      | (refine optP_of (gset _) ?_; (conv => whnf))
      | (refine Fn.use (markText_ok (k) (by omega) (by omega)) ?_; (conv => whnf); (first | refine ⟨trivial, ?_⟩ | refine ⟨⟨rfl, clr_of rfl⟩, ?_⟩); (conv => whnf))
      | (refine Fn.use (markEnumValS_ok vals (k + 1) (by omega) (by omega)) ?_; (conv => whnf); (first | refine ⟨trivial, ?_⟩ | refine ⟨⟨rfl, clr_of rfl⟩, ?_⟩); (conv => whnf))
      | rw [pset]
      | rw [hwk (k := k) (by omega) (by omega)]
      | rw [hwk (k := k + 1 + ((EnumVal.cns vals : Nat) : Int)) (by omega) (by omega)]
      | rw [hw2])
    exact fin
theorem heldEnumS_ok (l : List Enum) (k : Int) (h0 : 0 ≤ k) (hb : k + ((Enum.cns l : Nat) : Int) ≤ 4611686018427387904) : Fn Try.prog [] 86 [.sh 3 (Enum.css (Enum.mks l k)), .sc (.int .i64 k)] [] (ret [.sc (.int .i64 (k + ((Enum.cns l : Nat) : Int)))] []) := by
  have hl : l.length ≤ 4611686018427387904 := by have := Enum.cns_ge l; omega
  generalize hK : k + ((Enum.cns l : Nat) : Int) = K at *
  refine fn_of Try.func86 (by kernel_rfl) ?_
  conv => whnf
  refine loop_of (A := List (List V) × List Enum × Int) (eK 3 41 (fun r k => Enum.css (Enum.mks r k))) (fun x => x.2.1.length) (fun x => x.2.2 + ((Enum.cns x.2.1 : Nat) : Int) = K ∧ 0 ≤ x.2.2 ∧ x.1.length + x.2.1.length ≤ 4611686018427387904) ([], l, k) rfl ⟨hK, h0, by simpa using hl⟩ ?_
  clear hK h0 hl
  intro ⟨D, r, k⟩ ⟨h2, h3, h4⟩ X ih
  dsimp only at h2 h3 h4
  cases r with
  | nil =>
    rw [eK_eq, show Enum.css (Enum.mks [] k) = [] from by rw [Enum.mks]; rfl, List.append_nil]
    conv => whnf
    refine ifP_of (fun c1 => ?_) (fun c1 => ?_)
    · have := of_decide_eq_true c1; omega
    · conv => whnf
      exact ⟨il' (by rw [← h2]; simp [Enum.cns]), rfl⟩
  | cons a r =>
    rw [show Enum.cns (a :: r) = a.cn + Enum.cns r from by rw [Enum.cns]] at h2
    rw [List.length_cons] at h4
    have fin := ih (D ++ [Enum.cells (a.mk' k)], r, k + ((a.cn : Nat) : Int)) ⟨by dsimp only; omega, by dsimp only; omega, by dsimp only; rw [List.length_append, List.length_singleton]; omega⟩ (by dsimp only; rw [List.length_cons]; omega)
    rw [eK_eq, List.append_assoc, List.length_append, List.length_singleton] at fin
    rw [eK_eq, show Enum.css (Enum.mks (a :: r) k) = Enum.cells (a.mk' k) :: Enum.css (Enum.mks r (k + ((a.cn : Nat) : Int))) from by rw [Enum.mks, Enum.css_cons]]
    have fin : X ⟨[(0, .sh 3 (D ++ Enum.cells (a.mk' k) :: Enum.css (Enum.mks r (k + ((a.cn : Nat) : Int))))), (1, .sc (.int .i64 (k + ((a.cn : Nat) : Int)))), (5, .sc (.int .i64 ((D.length + 1 : Nat) : Int)))], [], 0, 41, 0⟩ := fin
    have hw2 := hwn (n := D.length) (by omega)
    clear ih
    obtain ⟨name, vals, pos⟩ := a
    have hcn : Enum.cn ⟨name, vals, pos⟩ = 1 + EnumVal.cns vals + 1 := by rw [Enum.cn]
    rw [hcn] at h2
    rw [show k + ((Enum.cn ⟨name, vals, pos⟩ : Nat) : Int) = k + 1 + ((EnumVal.cns vals : Nat) : Int) + 1 from by rw [hcn]; omega, show Enum.mk' ⟨name, vals, pos⟩ k = ⟨txtM (k), EnumVal.mks vals (k + 1), k + 1 + ((EnumVal.cns vals : Nat) : Int)⟩ from by rw [Enum.mk']] at fin
    rw [show k + ((Enum.cn ⟨name, vals, pos⟩ : Nat) : Int) = k + 1 + ((EnumVal.cns vals : Nat) : Int) + 1 from by rw [hcn]; omega, show Enum.mk' ⟨name, vals, pos⟩ k = ⟨txtM (k), EnumVal.mks vals (k + 1), k + 1 + ((EnumVal.cns vals : Nat) : Int)⟩ from by rw [Enum.mk']]
    generalize Enum.css (Enum.mks r (k + 1 + ((EnumVal.cns vals : Nat) : Int) + 1)) = R at *
    conv => whnf
    refine ifP_yes lenl ?_
    conv => whnf
    repeat' (first
      | (refine optP_of (gset _) ?_; (conv => whnf))
      | (refine Fn.use (markText_ok (k) (by omega) (by omega)) ?_; (conv => whnf); (first | refine ⟨trivial, ?_⟩ | refine ⟨⟨rfl, clr_of rfl⟩, ?_⟩); (conv => whnf))
      | (refine Fn.use (heldEnumValS_ok vals (k + 1) (by omega) (by omega)) ?_; (conv => whnf); (first | refine ⟨trivial, ?_⟩ | refine ⟨⟨rfl, clr_of rfl⟩, ?_⟩); (conv => whnf))
      | rw [hwk (k := k) (by omega) (by omega)]
      | rw [hwk (k := k + 1 + ((EnumVal.cns vals : Nat) : Int)) (by omega) (by omega)]
      | rw [hw2]
      | (refine ifP_no (neI _) ?_; (conv => whnf))
      | (refine ifP_no (neB _) ?_; (conv => whnf))
      | (refine ifP_no (neS _) ?_; (conv => whnf))
      | (refine ifP_no (decide_eq_false (by omega)) ?_; (conv => whnf)))
    exact fin
theorem markMessageS_ok (l : List Message) (k : Int) (h0 : 0 ≤ k) (hb : k + ((Message.cns l : Nat) : Int) ≤ 4611686018427387904) (IH : ∀ a ∈ l, ∀ k : Int, 0 ≤ k → k + ((Message.cns a.messages : Nat) : Int) ≤ 4611686018427387904 → Fn Try.prog [] 83 [.hdr 0 [], .sc (.int .i64 k)] [⟨Message.css a.messages, true, 7, false⟩] (ret [.sc (.int .i64 (k + ((Message.cns a.messages : Nat) : Int)))] [⟨Message.css (Message.mks a.messages k), true, 7, false⟩])) : Fn Try.prog [] 83 [.hdr 0 [], .sc (.int .i64 k)] [⟨Message.css l, true, 7, false⟩] (ret [.sc (.int .i64 (k + ((Message.cns l : Nat) : Int)))] [⟨Message.css (Message.mks l k), true, 7, false⟩]) := by
  have hl : l.length ≤ 4611686018427387904 := by have := Message.cns_ge l; omega
  generalize hF : Message.mks l k = F
  generalize hK : k + ((Message.cns l : Nat) : Int) = K at *
  refine fn_of Try.func83 (by kernel_rfl) ?_
  conv => whnf
  refine loop_of (A := List Message × List Message × Int) (eM 7 63 Message.css) (fun x => x.2.1.length) (fun x => x.1 ++ Message.mks x.2.1 x.2.2 = F ∧ x.2.2 + ((Message.cns x.2.1 : Nat) : Int) = K ∧ 0 ≤ x.2.2 ∧ x.1.length + x.2.1.length ≤ 4611686018427387904 ∧ ∀ y ∈ x.2.1, y ∈ l) ([], l, k) rfl ⟨hF, hK, h0, by simpa using hl, fun y hy => hy⟩ ?_
  clear hF hK h0 hl
  intro ⟨d, r, k⟩ ⟨h1, h2, h3, h4, h5⟩ X ih
  dsimp only at h1 h2 h3 h4 h5
  cases r with
  | nil =>
    have h6 : d = F := by rw [← h1]; simp [Message.mks]
    rw [eM_eq, show Message.css [] = [] from rfl, List.append_nil]
    subst h6
    generalize Message.css d = D at *
    conv => whnf
    refine ifP_of (fun c1 => ?_) (fun c1 => ?_)
    · have := of_decide_eq_true c1; omega
    · conv => whnf
      exact ⟨il' (by rw [← h2]; simp [Message.cns]), rfl⟩
  | cons a r =>
    rw [show Message.cns (a :: r) = a.cn + Message.cns r from by rw [Message.cns]] at h2
    rw [List.length_cons] at h4
    have fin := ih (d ++ [(a.mk' k)], r, k + ((a.cn : Nat) : Int)) ⟨by dsimp only; rw [← h1, Message.mks, List.append_assoc]; rfl, by dsimp only; omega, by dsimp only; omega, by dsimp only; rw [List.length_append, List.length_singleton]; omega, fun y hy => h5 y (List.mem_cons_of_mem _ hy)⟩ (by dsimp only; rw [List.length_cons]; omega)
    rw [eM_eq, ← Message.css_app] at fin
    rw [show ((Message.css (d ++ [(a.mk' k)])).length : Nat) = (Message.css d).length + 1 by rw [Message.css_len, Message.css_len, List.length_append]; rfl] at fin
    rw [eM_eq]
    have hlen : (Message.css d).length = d.length := Message.css_len _
    have hw2 := hwn (n := (Message.css d).length) (by omega)
    clear ih h1
    obtain ⟨name, fields, oneofs, reserved, messages, enums, pos⟩ := a
    have hcn : Message.cn ⟨name, fields, oneofs, reserved, messages, enums, pos⟩ = 1 + Field.cns fields + oneofs.length + reserved.length + Message.cns messages + Enum.cns enums + 1 := by rw [Message.cn]
    rw [hcn] at h2
    rw [show k + ((Message.cn ⟨name, fields, oneofs, reserved, messages, enums, pos⟩ : Nat) : Int) = k + 1 + ((Field.cns fields : Nat) : Int) + ((oneofs.length : Nat) : Int) + ((reserved.length : Nat) : Int) + ((Message.cns messages : Nat) : Int) + ((Enum.cns enums : Nat) : Int) + 1 from by rw [hcn]; omega, show Message.mk' ⟨name, fields, oneofs, reserved, messages, enums, pos⟩ k = ⟨txtM (k), Field.mks fields (k + 1), strM oneofs (k + 1 + ((Field.cns fields : Nat) : Int)), intM reserved (k + 1 + ((Field.cns fields : Nat) : Int) + ((oneofs.length : Nat) : Int)), Message.mks messages (k + 1 + ((Field.cns fields : Nat) : Int) + ((oneofs.length : Nat) : Int) + ((reserved.length : Nat) : Int)), Enum.mks enums (k + 1 + ((Field.cns fields : Nat) : Int) + ((oneofs.length : Nat) : Int) + ((reserved.length : Nat) : Int) + ((Message.cns messages : Nat) : Int)), k + 1 + ((Field.cns fields : Nat) : Int) + ((oneofs.length : Nat) : Int) + ((reserved.length : Nat) : Int) + ((Message.cns messages : Nat) : Int) + ((Enum.cns enums : Nat) : Int)⟩ from by rw [Message.mk']] at fin
    have IHa := IH _ (h5 _ (List.mem_cons_self ..))
    dsimp only at IHa
    generalize Message.css d = D at *
    rw [show Message.css (⟨name, fields, oneofs, reserved, messages, enums, pos⟩ :: r) = Message.cells ⟨name, fields, oneofs, reserved, messages, enums, pos⟩ :: Message.css r from Message.css_cons ..]
    generalize Message.css r = R at *
    conv => whnf
    refine ifP_yes lenl ?_
    conv => whnf
    repeat' (first
      | (refine optP_of (gset _) ?_; (conv => whnf))
      | (refine Fn.use (markText_ok (k) (by omega) (by omega)) ?_; (conv => whnf); (first | refine ⟨trivial, ?_⟩ | refine ⟨⟨rfl, clr_of rfl⟩, ?_⟩); (conv => whnf))
      | (refine Fn.use (markFieldS_ok fields (k + 1) (by omega) (by omega)) ?_; (conv => whnf); (first | refine ⟨trivial, ?_⟩ | refine ⟨⟨rfl, clr_of rfl⟩, ?_⟩); (conv => whnf))
      | (refine Fn.use (markStringS_ok oneofs (k + 1 + ((Field.cns fields : Nat) : Int)) (by omega) (by omega)) ?_; (conv => whnf); (first | refine ⟨trivial, ?_⟩ | refine ⟨⟨rfl, clr_of rfl⟩, ?_⟩); (conv => whnf))
      | (refine Fn.use (markIntS_ok reserved (k + 1 + ((Field.cns fields : Nat) : Int) + ((oneofs.length : Nat) : Int)) (by omega) (by omega)) ?_; (conv => whnf); (first | refine ⟨trivial, ?_⟩ | refine ⟨⟨rfl, clr_of rfl⟩, ?_⟩); (conv => whnf))
      | (refine Fn.use (IHa (k + 1 + ((Field.cns fields : Nat) : Int) + ((oneofs.length : Nat) : Int) + ((reserved.length : Nat) : Int)) (by omega) (by omega)) ?_; (conv => whnf); (first | refine ⟨trivial, ?_⟩ | refine ⟨⟨rfl, clr_of rfl⟩, ?_⟩); (conv => whnf))
      | (refine Fn.use (markEnumS_ok enums (k + 1 + ((Field.cns fields : Nat) : Int) + ((oneofs.length : Nat) : Int) + ((reserved.length : Nat) : Int) + ((Message.cns messages : Nat) : Int)) (by omega) (by omega)) ?_; (conv => whnf); (first | refine ⟨trivial, ?_⟩ | refine ⟨⟨rfl, clr_of rfl⟩, ?_⟩); (conv => whnf))
      | rw [pset]
      | rw [hwk (k := k) (by omega) (by omega)]
      | rw [hwk (k := k + 1 + ((Field.cns fields : Nat) : Int) + ((oneofs.length : Nat) : Int) + ((reserved.length : Nat) : Int) + ((Message.cns messages : Nat) : Int) + ((Enum.cns enums : Nat) : Int)) (by omega) (by omega)]
      | rw [hw2])
    exact fin
theorem markMessageS_rec : ∀ (n : Nat) (l : List Message), sizeOf l < n → ∀ k : Int, 0 ≤ k → k + ((Message.cns l : Nat) : Int) ≤ 4611686018427387904 → Fn Try.prog [] 83 [.hdr 0 [], .sc (.int .i64 k)] [⟨Message.css l, true, 7, false⟩] (ret [.sc (.int .i64 (k + ((Message.cns l : Nat) : Int)))] [⟨Message.css (Message.mks l k), true, 7, false⟩])
  | 0, l, hn, _, _, _ => by omega
  | n + 1, l, hn, k, h0, h1 => markMessageS_ok l k h0 h1 (fun a ha k h0 h1 => markMessageS_rec n a.messages (by
      have h2 := List.sizeOf_lt_of_mem ha
      obtain ⟨name, fields, oneofs, reserved, messages, enums, pos⟩ := a
      simp at h2
      dsimp only
      omega) k h0 h1)
theorem markMessageS_all (l : List Message) (k : Int) (h0 : 0 ≤ k) (h1 : k + ((Message.cns l : Nat) : Int) ≤ 4611686018427387904) : Fn Try.prog [] 83 [.hdr 0 [], .sc (.int .i64 k)] [⟨Message.css l, true, 7, false⟩] (ret [.sc (.int .i64 (k + ((Message.cns l : Nat) : Int)))] [⟨Message.css (Message.mks l k), true, 7, false⟩]) := markMessageS_rec _ l (Nat.lt_succ_self _) k h0 h1
theorem heldMessageS_ok (l : List Message) (k : Int) (h0 : 0 ≤ k) (hb : k + ((Message.cns l : Nat) : Int) ≤ 4611686018427387904) (IH : ∀ a ∈ l, ∀ k : Int, 0 ≤ k → k + ((Message.cns a.messages : Nat) : Int) ≤ 4611686018427387904 → Fn Try.prog [] 85 [.sh 7 (Message.css (Message.mks a.messages k)), .sc (.int .i64 k)] [] (ret [.sc (.int .i64 (k + ((Message.cns a.messages : Nat) : Int)))] [])) : Fn Try.prog [] 85 [.sh 7 (Message.css (Message.mks l k)), .sc (.int .i64 k)] [] (ret [.sc (.int .i64 (k + ((Message.cns l : Nat) : Int)))] []) := by
  have hl : l.length ≤ 4611686018427387904 := by have := Message.cns_ge l; omega
  generalize hK : k + ((Message.cns l : Nat) : Int) = K at *
  refine fn_of Try.func85 (by kernel_rfl) ?_
  conv => whnf
  refine loop_of (A := List (List V) × List Message × Int) (eK 7 77 (fun r k => Message.css (Message.mks r k))) (fun x => x.2.1.length) (fun x => x.2.2 + ((Message.cns x.2.1 : Nat) : Int) = K ∧ 0 ≤ x.2.2 ∧ x.1.length + x.2.1.length ≤ 4611686018427387904 ∧ ∀ y ∈ x.2.1, y ∈ l) ([], l, k) rfl ⟨hK, h0, by simpa using hl, fun y hy => hy⟩ ?_
  clear hK h0 hl
  intro ⟨D, r, k⟩ ⟨h2, h3, h4, h5⟩ X ih
  dsimp only at h2 h3 h4 h5
  cases r with
  | nil =>
    rw [eK_eq, show Message.css (Message.mks [] k) = [] from by rw [Message.mks]; rfl, List.append_nil]
    conv => whnf
    refine ifP_of (fun c1 => ?_) (fun c1 => ?_)
    · have := of_decide_eq_true c1; omega
    · conv => whnf
      exact ⟨il' (by rw [← h2]; simp [Message.cns]), rfl⟩
  | cons a r =>
    rw [show Message.cns (a :: r) = a.cn + Message.cns r from by rw [Message.cns]] at h2
    rw [List.length_cons] at h4
    have fin := ih (D ++ [Message.cells (a.mk' k)], r, k + ((a.cn : Nat) : Int)) ⟨by dsimp only; omega, by dsimp only; omega, by dsimp only; rw [List.length_append, List.length_singleton]; omega, fun y hy => h5 y (List.mem_cons_of_mem _ hy)⟩ (by dsimp only; rw [List.length_cons]; omega)
    rw [eK_eq, List.append_assoc, List.length_append, List.length_singleton] at fin
    rw [eK_eq, show Message.css (Message.mks (a :: r) k) = Message.cells (a.mk' k) :: Message.css (Message.mks r (k + ((a.cn : Nat) : Int))) from by rw [Message.mks, Message.css_cons]]
    have fin : X ⟨[(0, .sh 7 (D ++ Message.cells (a.mk' k) :: Message.css (Message.mks r (k + ((a.cn : Nat) : Int))))), (1, .sc (.int .i64 (k + ((a.cn : Nat) : Int)))), (5, .sc (.int .i64 ((D.length + 1 : Nat) : Int)))], [], 0, 77, 0⟩ := fin
    have hw2 := hwn (n := D.length) (by omega)
    clear ih
    obtain ⟨name, fields, oneofs, reserved, messages, enums, pos⟩ := a
    have hcn : Message.cn ⟨name, fields, oneofs, reserved, messages, enums, pos⟩ = 1 + Field.cns fields + oneofs.length + reserved.length + Message.cns messages + Enum.cns enums + 1 := by rw [Message.cn]
    rw [hcn] at h2
    rw [show k + ((Message.cn ⟨name, fields, oneofs, reserved, messages, enums, pos⟩ : Nat) : Int) = k + 1 + ((Field.cns fields : Nat) : Int) + ((oneofs.length : Nat) : Int) + ((reserved.length : Nat) : Int) + ((Message.cns messages : Nat) : Int) + ((Enum.cns enums : Nat) : Int) + 1 from by rw [hcn]; omega, show Message.mk' ⟨name, fields, oneofs, reserved, messages, enums, pos⟩ k = ⟨txtM (k), Field.mks fields (k + 1), strM oneofs (k + 1 + ((Field.cns fields : Nat) : Int)), intM reserved (k + 1 + ((Field.cns fields : Nat) : Int) + ((oneofs.length : Nat) : Int)), Message.mks messages (k + 1 + ((Field.cns fields : Nat) : Int) + ((oneofs.length : Nat) : Int) + ((reserved.length : Nat) : Int)), Enum.mks enums (k + 1 + ((Field.cns fields : Nat) : Int) + ((oneofs.length : Nat) : Int) + ((reserved.length : Nat) : Int) + ((Message.cns messages : Nat) : Int)), k + 1 + ((Field.cns fields : Nat) : Int) + ((oneofs.length : Nat) : Int) + ((reserved.length : Nat) : Int) + ((Message.cns messages : Nat) : Int) + ((Enum.cns enums : Nat) : Int)⟩ from by rw [Message.mk']] at fin
    rw [show k + ((Message.cn ⟨name, fields, oneofs, reserved, messages, enums, pos⟩ : Nat) : Int) = k + 1 + ((Field.cns fields : Nat) : Int) + ((oneofs.length : Nat) : Int) + ((reserved.length : Nat) : Int) + ((Message.cns messages : Nat) : Int) + ((Enum.cns enums : Nat) : Int) + 1 from by rw [hcn]; omega, show Message.mk' ⟨name, fields, oneofs, reserved, messages, enums, pos⟩ k = ⟨txtM (k), Field.mks fields (k + 1), strM oneofs (k + 1 + ((Field.cns fields : Nat) : Int)), intM reserved (k + 1 + ((Field.cns fields : Nat) : Int) + ((oneofs.length : Nat) : Int)), Message.mks messages (k + 1 + ((Field.cns fields : Nat) : Int) + ((oneofs.length : Nat) : Int) + ((reserved.length : Nat) : Int)), Enum.mks enums (k + 1 + ((Field.cns fields : Nat) : Int) + ((oneofs.length : Nat) : Int) + ((reserved.length : Nat) : Int) + ((Message.cns messages : Nat) : Int)), k + 1 + ((Field.cns fields : Nat) : Int) + ((oneofs.length : Nat) : Int) + ((reserved.length : Nat) : Int) + ((Message.cns messages : Nat) : Int) + ((Enum.cns enums : Nat) : Int)⟩ from by rw [Message.mk']]
    have IHa := IH _ (h5 _ (List.mem_cons_self ..))
    dsimp only at IHa
    generalize Message.css (Message.mks r (k + 1 + ((Field.cns fields : Nat) : Int) + ((oneofs.length : Nat) : Int) + ((reserved.length : Nat) : Int) + ((Message.cns messages : Nat) : Int) + ((Enum.cns enums : Nat) : Int) + 1)) = R at *
    conv => whnf
    refine ifP_yes lenl ?_
    conv => whnf
    repeat' (first
      | (refine optP_of (gset _) ?_; (conv => whnf))
      | (refine Fn.use (markText_ok (k) (by omega) (by omega)) ?_; (conv => whnf); (first | refine ⟨trivial, ?_⟩ | refine ⟨⟨rfl, clr_of rfl⟩, ?_⟩); (conv => whnf))
      | (refine Fn.use (heldFieldS_ok fields (k + 1) (by omega) (by omega)) ?_; (conv => whnf); (first | refine ⟨trivial, ?_⟩ | refine ⟨⟨rfl, clr_of rfl⟩, ?_⟩); (conv => whnf))
      | (refine Fn.use (heldStringS_ok oneofs (k + 1 + ((Field.cns fields : Nat) : Int)) (by omega) (by omega)) ?_; (conv => whnf); (first | refine ⟨trivial, ?_⟩ | refine ⟨⟨rfl, clr_of rfl⟩, ?_⟩); (conv => whnf))
      | (refine Fn.use (heldIntS_ok reserved (k + 1 + ((Field.cns fields : Nat) : Int) + ((oneofs.length : Nat) : Int)) (by omega) (by omega)) ?_; (conv => whnf); (first | refine ⟨trivial, ?_⟩ | refine ⟨⟨rfl, clr_of rfl⟩, ?_⟩); (conv => whnf))
      | (refine Fn.use (IHa (k + 1 + ((Field.cns fields : Nat) : Int) + ((oneofs.length : Nat) : Int) + ((reserved.length : Nat) : Int)) (by omega) (by omega)) ?_; (conv => whnf); (first | refine ⟨trivial, ?_⟩ | refine ⟨⟨rfl, clr_of rfl⟩, ?_⟩); (conv => whnf))
      | (refine Fn.use (heldEnumS_ok enums (k + 1 + ((Field.cns fields : Nat) : Int) + ((oneofs.length : Nat) : Int) + ((reserved.length : Nat) : Int) + ((Message.cns messages : Nat) : Int)) (by omega) (by omega)) ?_; (conv => whnf); (first | refine ⟨trivial, ?_⟩ | refine ⟨⟨rfl, clr_of rfl⟩, ?_⟩); (conv => whnf))
      | rw [hwk (k := k) (by omega) (by omega)]
      | rw [hwk (k := k + 1 + ((Field.cns fields : Nat) : Int) + ((oneofs.length : Nat) : Int) + ((reserved.length : Nat) : Int) + ((Message.cns messages : Nat) : Int) + ((Enum.cns enums : Nat) : Int)) (by omega) (by omega)]
      | rw [hw2]
      | (refine ifP_no (neI _) ?_; (conv => whnf))
      | (refine ifP_no (neB _) ?_; (conv => whnf))
      | (refine ifP_no (neS _) ?_; (conv => whnf))
      | (refine ifP_no (decide_eq_false (by omega)) ?_; (conv => whnf)))
    exact fin
theorem heldMessageS_rec : ∀ (n : Nat) (l : List Message), sizeOf l < n → ∀ k : Int, 0 ≤ k → k + ((Message.cns l : Nat) : Int) ≤ 4611686018427387904 → Fn Try.prog [] 85 [.sh 7 (Message.css (Message.mks l k)), .sc (.int .i64 k)] [] (ret [.sc (.int .i64 (k + ((Message.cns l : Nat) : Int)))] [])
  | 0, l, hn, _, _, _ => by omega
  | n + 1, l, hn, k, h0, h1 => heldMessageS_ok l k h0 h1 (fun a ha k h0 h1 => heldMessageS_rec n a.messages (by
      have h2 := List.sizeOf_lt_of_mem ha
      obtain ⟨name, fields, oneofs, reserved, messages, enums, pos⟩ := a
      simp at h2
      dsimp only
      omega) k h0 h1)
theorem heldMessageS_all (l : List Message) (k : Int) (h0 : 0 ≤ k) (h1 : k + ((Message.cns l : Nat) : Int) ≤ 4611686018427387904) : Fn Try.prog [] 85 [.sh 7 (Message.css (Message.mks l k)), .sc (.int .i64 k)] [] (ret [.sc (.int .i64 (k + ((Message.cns l : Nat) : Int)))] []) := heldMessageS_rec _ l (Nat.lt_succ_self _) k h0 h1
end Ev
open Go Ev
open Go.Proofs
set_option maxRecDepth 100000
set_option maxHeartbeats 4000000
set_option linter.unusedVariables false
namespace Ev
structure Tok where
  kind : Int
  text : ByteArray
  num : Int
  pos : Int
def Tok.cs (t : Tok) : List V := [.sc (.int .i64 t.kind), .sc (.string t.text), .sc (.int .i64 t.num), .sc (.int .i64 t.pos)]
def Tok.css (l : List Tok) : List (List V) := l.map Tok.cs
theorem Tok.css_len (l : List Tok) : (Tok.css l).length = l.length := List.length_map ..
theorem Tok.css_get {l : List Tok} {i : Nat} (h : i < l.length) : (Tok.css l)[i]? = some l[i].cs := get_map h
structure Ps where
  at' : Nat
  code : Int
  pos : Int
def Ps.adv (σ : Ps) : Ps := ⟨σ.at' + 1, σ.code, σ.pos⟩
def now (T : List Tok) (σ : Ps) : Tok := T.getD σ.at' ⟨4, .empty, 0, 0⟩
theorem now_get {T : List Tok} {σ : Ps} (h : σ.at' < T.length) : (Tok.css T)[σ.at']? = some (now T σ).cs := by
  rw [Tok.css_get h, now, List.getD_eq_getElem?_getD, List.getElem?_eq_getElem h]; rfl
def sameT (a b : ByteArray) : Bool := a.toList == b.toList
theorem sameT_eq (a b : ByteArray) : sameT a b = decide (a = b) := bytes_eq a b
def pick {α : Type} (b : Bool) (x y : α) : α := match b with
  | true => x
  | false => y
def fails (T : List Tok) (c : Int) (σ : Ps) : Ps := pick (σ.code == 0) ⟨σ.at', c, (now T σ).pos⟩ σ
def isT (T : List Tok) (s : ByteArray) (σ : Ps) : Bool := σ.code == 0 && (((now T σ).kind == 3 || (now T σ).kind == 1) && sameT (now T σ).text s)
def hasS (T : List Tok) (s : ByteArray) (σ : Ps) : Ps := pick (isT T s σ) σ.adv σ
def want (T : List Tok) (s : ByteArray) (σ : Ps) : Ps := pick (isT T s σ) σ.adv (fails T 15 σ)
def kindT (T : List Tok) (k : Int) (σ : Ps) : Bool := σ.code == 0 && (now T σ).kind == k
def takeS (T : List Tok) (k : Int) (σ : Ps) : Ps := pick (kindT T k σ) σ.adv (fails T 15 σ)
def nameT (T : List Tok) (σ : Ps) : ByteArray := pick (kindT T 1 σ) (now T σ).text .empty
def intT (T : List Tok) (σ : Ps) : Int := pick (kindT T 2 σ) (now T σ).num 0
/-- How far it is from the end. -/
def muP (T : List Tok) (σ : Ps) : Nat := pick (σ.code == 0) (T.length - σ.at' + 1) 0
/-- A loop, told by what is left of a measure. -/
def iter {α : Type} (c : α → Bool) (f : α → α) : Nat → α → α
  | 0, x => x
  | n + 1, x => pick (c x) (iter c f n (f x)) x
theorem iter_more {α : Type} {c : α → Bool} {f : α → α} {mu : α → Nat} (h : ∀ x, c x = true → mu (f x) < mu x) : ∀ (n m : Nat) (x : α), mu x ≤ n → mu x ≤ m → iter c f n x = iter c f m x
  | 0, 0, x, _, _ => rfl
  | 0, m + 1, x, h0, _ => by
    rw [iter, iter]
    cases hc : c x with
    | false => rfl
    | true => have := h x hc; omega
  | n + 1, 0, x, _, h0 => by
    rw [iter, iter]
    cases hc : c x with
    | false => rfl
    | true => have := h x hc; omega
  | n + 1, m + 1, x, hn, hm => by
    rw [iter, iter]
    cases hc : c x with
    | false => rfl
    | true => have := h x hc; exact iter_more h n m (f x) (by omega) (by omega)
theorem iter_yes {α : Type} {c : α → Bool} {f : α → α} {mu : α → Nat} (h : ∀ x, c x = true → mu (f x) < mu x) {x : α} (hc : c x = true) : iter c f (mu x) x = iter c f (mu (f x)) (f x) := by
  have := h x hc
  obtain ⟨n, hn⟩ : ∃ n, mu x = n + 1 := ⟨mu x - 1, by omega⟩
  rw [hn, iter, hc]
  exact iter_more h _ _ _ (by omega) (Nat.le_refl _)
theorem iter_no {α : Type} {c : α → Bool} {f : α → α} {n : Nat} {x : α} (hc : c x = false) : iter c f n x = x := by
  cases n with
  | zero => rfl
  | succ n => rw [iter, hc]; rfl
/-- What the lexer's tokens are. -/
structure Toks (T : List Tok) : Prop where
  some : 0 < T.length
  len : T.length ≤ 1501
  last : ∀ (i : Nat) (h : i < T.length), T[i].kind ≠ 4 → i + 1 < T.length
  word : ∀ t ∈ T, t.kind = 1 → t.text ≠ .empty ∧ ∀ s : ByteArray, (s = ⟨#[123]⟩ ∨ s = ⟨#[125]⟩ ∨ s = ⟨#[61]⟩ ∨ s = ⟨#[59]⟩ ∨ s = ⟨#[44]⟩ ∨ s = ⟨#[46]⟩ ∨ s = ⟨#[45]⟩) → t.text ≠ s
  sign : ∀ t ∈ T, t.kind = 3 → t.text.size = 1
  num : ∀ t ∈ T, 0 ≤ t.num ∧ t.num ≤ 2147483647
  size : ∀ t ∈ T, t.text.size ≤ 20
/-- The place is that of a token. -/
def Ps.In (T : List Tok) (σ : Ps) : Prop := σ.at' < T.length
theorem now_mem {T : List Tok} {σ : Ps} (h : σ.In T) : now T σ ∈ T := by
  unfold now
  rw [List.getD_eq_getElem?_getD, List.getElem?_eq_getElem h]
  exact List.getElem_mem h
theorem In.adv {T : List Tok} (ht : Toks T) {σ : Ps} (h : σ.In T) (hk : (now T σ).kind ≠ 4) : σ.adv.In T := by
  unfold now at hk
  rw [List.getD_eq_getElem?_getD, List.getElem?_eq_getElem h] at hk
  exact ht.last _ h hk
theorem In.fails {T : List Tok} {σ : Ps} {c : Int} (h : σ.In T) : (fails T c σ).In T := by
  unfold Ev.fails pick
  cases σ.code == 0 <;> exact h
theorem In.step {T : List Tok} {σ : Ps} {b : Bool} {c : Int} (ht : Toks T) (h : σ.In T) (hb : b = true → (now T σ).kind ≠ 4) : (pick b σ.adv (Ev.fails T c σ)).In T := by
  cases b with
  | true => exact In.adv ht h (hb rfl)
  | false => exact In.fails h
theorem isT_kind {T : List Tok} {s : ByteArray} {σ : Ps} (h : isT T s σ = true) : σ.code = 0 ∧ ((now T σ).kind = 3 ∨ (now T σ).kind = 1) ∧ (now T σ).text = s := by
  unfold isT at h
  rw [sameT_eq] at h
  simpa using h
theorem kindT_kind {T : List Tok} {k : Int} {σ : Ps} (h : kindT T k σ = true) : σ.code = 0 ∧ (now T σ).kind = k := by
  unfold kindT at h
  simpa using h
theorem In.want {T : List Tok} (ht : Toks T) {σ : Ps} (h : σ.In T) (s : ByteArray) : (want T s σ).In T := In.step ht h fun hb => by
  have := (isT_kind hb).2.1; omega
theorem In.has {T : List Tok} (ht : Toks T) {σ : Ps} (h : σ.In T) (s : ByteArray) : (hasS T s σ).In T := by
  unfold hasS
  cases hb : isT T s σ with
  | true => exact In.adv ht h (by have := (isT_kind hb).2.1; omega)
  | false => exact h
theorem In.take {T : List Tok} (ht : Toks T) {σ : Ps} (h : σ.In T) {k : Int} (hk : k ≠ 4) : (takeS T k σ).In T := In.step ht h fun hb => by
  have := (kindT_kind hb).2; omega
-- the measure
theorem mu_fails {T : List Tok} {σ : Ps} {c : Int} (hc : c ≠ 0) : muP T (fails T c σ) = 0 := by
  unfold fails muP
  cases h : σ.code == 0 with
  | true =>
    have : (c == 0) = false := by simpa using hc
    simp only [pick, this]
  | false => simp only [pick, h]
theorem mu_adv {T : List Tok} {σ : Ps} : muP T σ.adv ≤ muP T σ := by
  unfold muP Ps.adv
  dsimp only
  cases σ.code == 0 with
  | true => simp only [pick]; omega
  | false => exact Nat.le_refl _
theorem mu_adv_lt {T : List Tok} {σ : Ps} (h : σ.In T) (hc : σ.code = 0) : muP T σ.adv < muP T σ := by
  have : σ.at' < T.length := h
  unfold muP Ps.adv
  dsimp only
  rw [hc]
  simp only [pick]
  show T.length - (σ.at' + 1) + 1 < T.length - σ.at' + 1
  omega
theorem mu_step {T : List Tok} {σ : Ps} {b : Bool} {c : Int} (hc : c ≠ 0) : muP T (pick b σ.adv (fails T c σ)) ≤ muP T σ := by
  cases b with
  | true => exact mu_adv
  | false => exact Nat.le_trans (Nat.le_of_eq (mu_fails hc)) (Nat.zero_le _)
theorem mu_want {T : List Tok} {σ : Ps} (s : ByteArray) : muP T (want T s σ) ≤ muP T σ := mu_step (by decide)
theorem mu_take {T : List Tok} {σ : Ps} (k : Int) : muP T (takeS T k σ) ≤ muP T σ := mu_step (by decide)
theorem mu_has {T : List Tok} {σ : Ps} (s : ByteArray) : muP T (hasS T s σ) ≤ muP T σ := by
  unfold hasS
  cases isT T s σ with
  | true => exact mu_adv
  | false => exact Nat.le_refl _
theorem mu_take_lt {T : List Tok} {σ : Ps} (k : Int) (h : σ.In T) (hc : σ.code = 0) : muP T (takeS T k σ) < muP T σ := by
  unfold takeS
  cases hb : kindT T k σ with
  | true => exact mu_adv_lt h hc
  | false =>
    show muP T (fails T 15 σ) < _
    rw [mu_fails (by decide)]
    unfold muP; rw [hc]; exact Nat.succ_pos _
theorem mu_want_lt {T : List Tok} {σ : Ps} (s : ByteArray) (h : σ.In T) (hc : σ.code = 0) : muP T (want T s σ) < muP T σ := by
  unfold want
  cases hb : isT T s σ with
  | true => exact mu_adv_lt h hc
  | false =>
    show muP T (fails T 15 σ) < _
    rw [mu_fails (by decide)]
    unfold muP; rw [hc]; exact Nat.succ_pos _
-- the parts
def dotB : ByteArray := ⟨#[46]⟩
def typC (T : List Tok) (x : ByteArray × Ps) : Bool := isT T dotB x.2
def typF (T : List Tok) (x : ByteArray × Ps) : ByteArray × Ps := (x.1 ++ dotB ++ nameT T x.2.adv, takeS T 1 x.2.adv)
def typP (T : List Tok) (σ : Ps) : ByteArray × Ps := iter (typC T) (typF T) (muP T (takeS T 1 σ)) (nameT T σ, takeS T 1 σ)
def lbr : ByteArray := ⟨#[123]⟩
def rbr : ByteArray := ⟨#[125]⟩
def eqs : ByteArray := ⟨#[61]⟩
def semi : ByteArray := ⟨#[59]⟩
def comma : ByteArray := ⟨#[44]⟩
def minus : ByteArray := ⟨#[45]⟩
/-- A field from its type on. -/
def tailP (T : List Tok) (rep : Bool) (one : ByteArray) (pos : Int) (σ : Ps) : Field × Ps :=
  (⟨nameT T (typP T σ).2, (typP T σ).1, intT T (want T eqs (takeS T 1 (typP T σ).2)), rep, one, pos⟩, want T semi (takeS T 2 (want T eqs (takeS T 1 (typP T σ).2))))
def numP (neg : Bool) (n : Int) : Int := pick neg (IntKind.i64.wrap (0 - n)) n
def valP (T : List Tok) (σ : Ps) : EnumVal × Ps :=
  (⟨nameT T σ, numP (isT T minus (want T eqs (takeS T 1 σ))) (intT T (hasS T minus (want T eqs (takeS T 1 σ)))), (now T σ).pos⟩,
    want T semi (takeS T 2 (hasS T minus (want T eqs (takeS T 1 σ)))))
/-- Is there more before what closes it? -/
def moreC (T : List Tok) (σ : Ps) : Bool := σ.code == 0 && !isT T rbr σ
def enumF (T : List Tok) (x : List EnumVal × Ps) : List EnumVal × Ps := (x.1 ++ [(valP T x.2).1], (valP T x.2).2)
def enumP (T : List Tok) (σ : Ps) : Enum × Ps :=
  let σ2 := want T lbr (takeS T 1 σ.adv)
  let x := iter (fun x => moreC T x.2) (enumF T) (muP T σ2) ([], σ2)
  (⟨nameT T σ.adv, x.1, (now T σ).pos⟩, hasS T rbr x.2)
def oneF (T : List Tok) (name : ByteArray) (x : List Field × Ps) : List Field × Ps := (x.1 ++ [(tailP T false name (now T x.2).pos x.2).1], (tailP T false name (now T x.2).pos x.2).2)
def oneP (T : List Tok) (fs : List Field) (σ : Ps) : List Field × Ps :=
  let σ2 := want T lbr (takeS T 1 σ.adv)
  let x := iter (fun x => moreC T x.2) (oneF T (nameT T σ.adv)) (muP T σ2) (fs, σ2)
  (x.1, hasS T rbr x.2)
def resF (T : List Tok) (x : List Int × Ps) : List Int × Ps := (x.1 ++ [intT T x.2.adv], takeS T 2 x.2.adv)
def resP' (T : List Tok) (l : List Int) (σ : Ps) : List Int × Ps :=
  let x := iter (fun x => isT T comma x.2) (resF T) (muP T (takeS T 2 σ.adv)) (l ++ [intT T σ.adv], takeS T 2 σ.adv)
  (x.1, want T semi x.2)
def messageB : ByteArray := ⟨#[109, 101, 115, 115, 97, 103, 101]⟩
def enumB : ByteArray := ⟨#[101, 110, 117, 109]⟩
def oneofB : ByteArray := ⟨#[111, 110, 101, 111, 102]⟩
def reservedB : ByteArray := ⟨#[114, 101, 115, 101, 114, 118, 101, 100]⟩
def repeatedB : ByteArray := ⟨#[114, 101, 112, 101, 97, 116, 101, 100]⟩
def fldP (T : List Tok) (σ : Ps) : Field × Ps := tailP T (isT T repeatedB σ) .empty (now T σ).pos (hasS T repeatedB σ)
def msgF (T : List Tok) (sub : Ps → Message × Ps) (x : Message × Ps) : Message × Ps :=
  let m := x.1
  let σ := x.2
  pick (isT T messageB σ) (({m with messages := m.messages ++ [(sub σ).1]} : Message), (sub σ).2)
    (pick (isT T enumB σ) (({m with enums := m.enums ++ [(enumP T σ).1]} : Message), (enumP T σ).2)
      (pick (isT T oneofB σ) (({m with oneofs := m.oneofs ++ [nameT T σ.adv], fields := (oneP T m.fields σ).1} : Message), (oneP T m.fields σ).2)
        (pick (isT T reservedB σ) (({m with reserved := (resP' T m.reserved σ).1} : Message), (resP' T m.reserved σ).2)
          (({m with fields := m.fields ++ [(fldP T σ).1]} : Message), (fldP T σ).2))))
/-- A message over which k may stand yet. -/
def msgP (T : List Tok) : Nat → Ps → Message × Ps
  | 0, σ => (⟨.empty, [], [], [], [], [], (now T σ).pos⟩, fails T 16 σ)
  | k + 1, σ =>
    let σ2 := want T lbr (takeS T 1 (want T messageB σ))
    let x := iter (fun x => moreC T x.2) (msgF T (msgP T k)) (muP T σ2) (⟨nameT T (want T messageB σ), [], [], [], [], [], (now T σ).pos⟩, σ2)
    (x.1, hasS T rbr x.2)
def fileC (T : List Tok) (σ : Ps) : Bool := σ.code == 0 && !((now T σ).kind == 4)
def fileF (T : List Tok) (x : File × Ps) : File × Ps :=
  pick (isT T enumB x.2) (({x.1 with enums := x.1.enums ++ [(enumP T x.2).1]} : File), (enumP T x.2).2)
    (({x.1 with messages := x.1.messages ++ [(msgP T 8 x.2).1]} : File), (msgP T 8 x.2).2)
/-- The whole file, or a fault. -/
def fileP (T : List Tok) : File × Int × Int :=
  let x := iter (fun x => fileC T x.2) (fileF T) (muP T ⟨0, 0, 0⟩) (⟨[], []⟩, ⟨0, 0, 0⟩)
  pick (x.2.code == 0) (x.1, 0, 0) (⟨[], []⟩, x.2.code, x.2.pos)
end Ev
open Go Ev
open Go.Proofs
set_option maxRecDepth 100000
set_option maxHeartbeats 4000000
set_option linter.unusedVariables false
namespace Ev
theorem bl {x y : Bool} (h : x = y) : [V.sc (.bool x)] = [V.sc (.bool y)] := by rw [h]
theorem il {x y : Int} (h : x = y) : [V.sc (.int .i64 x)] = [V.sc (.int .i64 y)] := by rw [h]
def inB (n lo hi : Int) : Bool := decide (n ≥ lo) && decide (n ≤ hi)
theorem specIn (n lo hi : Int) : Fn Try.prog [] 49 [.sc (.int .i64 n), .sc (.int .i64 lo), .sc (.int .i64 hi)] [] (ret [.sc (.bool (inB n lo hi))] []) := by
  refine fn_of Try.func49 (by kernel_rfl) ?_
  conv => whnf
  refine ifP_of (fun h => ?_) (fun h => ?_)
  · conv => whnf
    exact ⟨bl (show decide (n ≤ hi) = _ by unfold inB; rw [h]; rfl), rfl⟩
  · conv => whnf
    exact ⟨bl (show false = _ by unfold inB; rw [h]; rfl), rfl⟩
def psRow (T : List Tok) (σ : Ps) : List V := [.sl 4 (Tok.css T), .sc (.int .i64 σ.at'), .sc (.int .i64 σ.code), .sc (.int .i64 σ.pos)]
def psOb (T : List Tok) (σ : Ps) : Ob := ⟨[[.own true 4 (Tok.css T), .sc (.int .i64 σ.at'), .sc (.int .i64 σ.code), .sc (.int .i64 σ.pos)]], true, 4, true⟩
theorem wadd {i n : Nat} (h : i < n) (hn : n ≤ 1501) : IntKind.i64.wrap ((i : Int) + 1) = ((i + 1 : Nat) : Int) := by rw [wrap64 (by omega) (by omega)]; omega
theorem specNow {T : List Tok} {σ : Ps} (h : σ.In T) : Fn Try.prog [] 73 [.shp (psRow T σ)] [] (ret [.agg (now T σ).cs] []) := by
  have hg := now_get h
  generalize now T σ = t at *
  obtain ⟨i, c, p⟩ := σ
  refine fn_of Try.func73 (by kernel_rfl) ?_
  conv => whnf
  refine optP_of (hg) ?_
  conv => whnf
  exact ⟨rfl, rfl⟩
theorem specIs {T : List Tok} {σ : Ps} (h : σ.In T) (s : ByteArray) : Fn Try.prog [] 74 [.shp (psRow T σ), .sc (.string s)] [] (ret [.sc (.bool (isT T s σ))] []) := by
  have hN := specNow h
  have hr : isT T s σ = (σ.code == 0 && (((now T σ).kind == 3 || (now T σ).kind == 1) && sameT (now T σ).text s)) := rfl
  generalize isT T s σ = R at *
  generalize now T σ = t at *
  obtain ⟨i, c, p⟩ := σ
  dsimp only at hr
  refine fn_of Try.func74 (by kernel_rfl) ?_
  conv => whnf
  refine Fn.use (hN) ?_
  conv => whnf
  first | refine ⟨trivial, ?_⟩ | refine ⟨⟨rfl, clr_of rfl⟩, ?_⟩
  conv => whnf
  repeat' (first
    | (refine chkP_of ?hchk ?_; (case hchk => simp; done); (conv => whnf))
    | (refine ifP_of (fun _ => ?_) (fun _ => ?_) <;> (conv => whnf)))
  all_goals exact ⟨bl (by rw [hr]; simp_all [sameT]), rfl⟩
theorem specFails {T : List Tok} {σ : Ps} (h : σ.In T) (k : Int) : Fn Try.prog [] 140 [.ptr 0 [] 0 0, .sc (.int .i64 k)] [psOb T σ] (ret [] [psOb T (fails T k σ)]) := by
  have hN := specNow h
  have hr : fails T k σ = pick (σ.code == 0) ⟨σ.at', k, (now T σ).pos⟩ σ := rfl
  generalize fails T k σ = R at *
  generalize now T σ = t at *
  obtain ⟨i, c, p⟩ := σ
  dsimp only at hr
  refine fn_of Try.func140 (by kernel_rfl) ?_
  conv => whnf
  refine ifP_of (fun h1 => ?_) (fun h1 => ?_)
  · rw [h1] at hr
    subst hr
    conv => whnf
    refine Fn.use (hN) ?_
    conv => whnf
    first | refine ⟨trivial, ?_⟩ | refine ⟨⟨rfl, clr_of rfl⟩, ?_⟩
    conv => whnf
    exact ⟨rfl, rfl⟩
  · rw [h1] at hr
    subst hr
    conv => whnf
    exact ⟨rfl, rfl⟩
theorem specHas {T : List Tok} (hT : Toks T) {σ : Ps} (h : σ.In T) (s : ByteArray) : Fn Try.prog [] 138 [.ptr 0 [] 0 0, .sc (.string s)] [psOb T σ] (ret [.sc (.bool (isT T s σ))] [psOb T (hasS T s σ)]) := by
  have hN := specIs h s
  have hr : hasS T s σ = pick (isT T s σ) σ.adv σ := rfl
  generalize hasS T s σ = R at *
  generalize isT T s σ = b at *
  have hw := wadd h hT.len
  obtain ⟨i, c, p⟩ := σ
  dsimp only at hw
  refine fn_of Try.func138 (by kernel_rfl) ?_
  conv => whnf
  refine Fn.use (hN) ?_
  conv => whnf
  first | refine ⟨trivial, ?_⟩ | refine ⟨⟨rfl, clr_of rfl⟩, ?_⟩
  conv => whnf
  refine ifP_of (fun h1 => ?_) (fun h1 => ?_)
  · subst h1
    subst hr
    conv => whnf
    exact ⟨rfl, by rw [hw]; rfl⟩
  · subst h1
    subst hr
    conv => whnf
    exact ⟨rfl, rfl⟩
theorem specWant {T : List Tok} (hT : Toks T) {σ : Ps} (h : σ.In T) (s : ByteArray) : Fn Try.prog [] 136 [.ptr 0 [] 0 0, .sc (.string s)] [psOb T σ] (ret [] [psOb T (want T s σ)]) := by
  have hN := specHas hT h s
  have hF := specFails h 15
  have hr : want T s σ = pick (isT T s σ) σ.adv (fails T 15 σ) := rfl
  have hr2 : hasS T s σ = pick (isT T s σ) σ.adv σ := rfl
  generalize want T s σ = R at *
  generalize hasS T s σ = R2 at *
  generalize isT T s σ = b at *
  obtain ⟨i, c, p⟩ := σ
  refine fn_of Try.func136 (by kernel_rfl) ?_
  conv => whnf
  refine Fn.use (hN) ?_
  conv => whnf
  first | refine ⟨trivial, ?_⟩ | refine ⟨⟨rfl, clr_of rfl⟩, ?_⟩
  conv => whnf
  refine ifP_of (fun h1 => ?_) (fun h1 => ?_)
  · have h1 : b = false := by simpa using h1
    subst h1
    subst hr hr2
    conv => whnf
    refine Fn.use (hF) ?_
    conv => whnf
    first | refine ⟨trivial, ?_⟩ | refine ⟨⟨rfl, clr_of rfl⟩, ?_⟩
    conv => whnf
    exact ⟨rfl, rfl⟩
  · have h1 : b = true := by simpa using h1
    subst h1
    subst hr hr2
    conv => whnf
    exact ⟨rfl, rfl⟩
end Ev
open Go Ev
open Go.Proofs
set_option maxRecDepth 100000
set_option maxHeartbeats 4000000
set_option linter.unusedVariables false
namespace Ev
theorem specName {T : List Tok} (hT : Toks T) {σ : Ps} (h : σ.In T) : Fn Try.prog [] 137 [.ptr 0 [] 0 0] [psOb T σ] (ret [.sc (.string (nameT T σ))] [psOb T (takeS T 1 σ)]) := by
  have hN := specNow h
  have hF := specFails h 15
  have hr : takeS T 1 σ = pick (σ.code == 0 && (now T σ).kind == 1) σ.adv (fails T 15 σ) := rfl
  have hv : nameT T σ = pick (σ.code == 0 && (now T σ).kind == 1) (now T σ).text .empty := rfl
  generalize takeS T 1 σ = R at *
  generalize nameT T σ = v at *
  generalize fails T 15 σ = σf at *
  generalize now T σ = t at *
  have hw := wadd h hT.len
  obtain ⟨i, c, p⟩ := σ
  dsimp only at hr hv hw
  generalize hk : (t.kind == 1) = k1 at *
  generalize hc : (c == 0) = c1 at *
  have hk2 : (t.kind != 1) = !k1 := by rw [← hk]; rfl
  have hc2 : (c != 0) = !c1 := by rw [← hc]; rfl
  refine fn_of Try.func137 (by kernel_rfl) ?_
  conv => whnf
  repeat' (first
    | (refine Fn.use (hN) ?_; (conv => whnf); (first | refine ⟨trivial, ?_⟩ | refine ⟨⟨rfl, clr_of rfl⟩, ?_⟩); (conv => whnf))
    | (refine Fn.use (hF) ?_; (conv => whnf); (first | refine ⟨trivial, ?_⟩ | refine ⟨⟨rfl, clr_of rfl⟩, ?_⟩); (conv => whnf))
    | (refine chkP_of ?hchk ?_; (case hchk => simp; done); (conv => whnf))
    | (refine ifP_of (fun _ => ?_) (fun _ => ?_) <;> (conv => whnf)))
  all_goals first
    | (have e : (c1 && k1) = true := by clear hN hF hr hv; simp_all
       rw [e] at hr hv
       subst hr hv
       exact ⟨rfl, by rw [hw]; rfl⟩)
    | (have e : (c1 && k1) = false := by clear hN hF hr hv; simp_all
       rw [e] at hr hv
       subst hr hv
       exact ⟨rfl, rfl⟩)
theorem specInt {T : List Tok} (hT : Toks T) {σ : Ps} (h : σ.In T) : Fn Try.prog [] 139 [.ptr 0 [] 0 0] [psOb T σ] (ret [.sc (.int .i64 (intT T σ))] [psOb T (takeS T 2 σ)]) := by
  have hN := specNow h
  have hF := specFails h 15
  have hr : takeS T 2 σ = pick (σ.code == 0 && (now T σ).kind == 2) σ.adv (fails T 15 σ) := rfl
  have hv : intT T σ = pick (σ.code == 0 && (now T σ).kind == 2) (now T σ).num 0 := rfl
  generalize takeS T 2 σ = R at *
  generalize intT T σ = v at *
  generalize fails T 15 σ = σf at *
  generalize now T σ = t at *
  have hw := wadd h hT.len
  obtain ⟨i, c, p⟩ := σ
  dsimp only at hr hv hw
  generalize hk : (t.kind == 2) = k1 at *
  generalize hc : (c == 0) = c1 at *
  have hk2 : (t.kind != 2) = !k1 := by rw [← hk]; rfl
  have hc2 : (c != 0) = !c1 := by rw [← hc]; rfl
  refine fn_of Try.func139 (by kernel_rfl) ?_
  conv => whnf
  repeat' (first
    | (refine Fn.use (hN) ?_; (conv => whnf); (first | refine ⟨trivial, ?_⟩ | refine ⟨⟨rfl, clr_of rfl⟩, ?_⟩); (conv => whnf))
    | (refine Fn.use (hF) ?_; (conv => whnf); (first | refine ⟨trivial, ?_⟩ | refine ⟨⟨rfl, clr_of rfl⟩, ?_⟩); (conv => whnf))
    | (refine chkP_of ?hchk ?_; (case hchk => simp; done); (conv => whnf))
    | (refine ifP_of (fun _ => ?_) (fun _ => ?_) <;> (conv => whnf)))
  all_goals first
    | (have e : (c1 && k1) = true := by clear hN hF hr hv; simp_all
       rw [e] at hr hv
       subst hr hv
       exact ⟨rfl, by rw [hw]; rfl⟩)
    | (have e : (c1 && k1) = false := by clear hN hF hr hv; simp_all
       rw [e] at hr hv
       subst hr hv
       exact ⟨rfl, rfl⟩)
end Ev
open Go Ev
open Go.Proofs
set_option maxRecDepth 100000
set_option maxHeartbeats 4000000
set_option linter.unusedVariables false
namespace Ev
theorem iter_inv {α : Type} {c : α → Bool} {f : α → α} {P : α → Prop} (h : ∀ x, c x = true → P x → P (f x)) : ∀ (n : Nat) (x : α), P x → P (iter c f n x)
  | 0, x, hx => hx
  | n + 1, x, hx => by
    rw [iter]
    cases hc : c x with
    | true => exact iter_inv h n _ (h x hc hx)
    | false => exact hx
theorem iter_le {α : Type} {c : α → Bool} {f : α → α} {mu : α → Nat} (h : ∀ x, c x = true → mu (f x) < mu x) (n : Nat) (x : α) : mu (iter c f n x) ≤ mu x := iter_inv (P := fun y => mu y ≤ mu x) (fun y hc hy => Nat.le_of_lt (Nat.lt_of_lt_of_le (h y hc) hy)) n x (Nat.le_refl _)
theorem now_out {T : List Tok} {σ : Ps} (h : ¬ σ.In T) : (now T σ).kind = 4 := by
  unfold now
  rw [List.getD_eq_getElem?_getD, List.getElem?_eq_none (by unfold Ps.In at h; omega)]; rfl
theorem isT_in {T : List Tok} {s : ByteArray} {σ : Ps} (h : isT T s σ = true) : σ.In T := by
  by_cases hi : σ.In T
  · exact hi
  · have := (isT_kind h).2.1
    have := now_out hi
    omega
theorem kindT_in {T : List Tok} {k : Int} {σ : Ps} (hk : k ≠ 4) (h : kindT T k σ = true) : σ.In T := by
  by_cases hi : σ.In T
  · exact hi
  · have := (kindT_kind h).2
    have := now_out hi
    omega
theorem mu_pos {T : List Tok} {σ : Ps} (hc : σ.code = 0) : 0 < muP T σ := by
  unfold muP; rw [hc]; exact Nat.succ_pos _
theorem take_lt {T : List Tok} {σ : Ps} {k : Int} (hk : k ≠ 4) (hc : σ.code = 0) : muP T (takeS T k σ) < muP T σ := by
  unfold takeS
  cases hb : kindT T k σ with
  | true => exact mu_adv_lt (kindT_in hk hb) hc
  | false => show muP T (fails T 15 σ) < _; rw [mu_fails (by decide)]; exact mu_pos hc
theorem want_lt {T : List Tok} {σ : Ps} (s : ByteArray) (hc : σ.code = 0) : muP T (want T s σ) < muP T σ := by
  unfold want
  cases hb : isT T s σ with
  | true => exact mu_adv_lt (isT_in hb) hc
  | false => show muP T (fails T 15 σ) < _; rw [mu_fails (by decide)]; exact mu_pos hc
theorem adv_lt {T : List Tok} {σ : Ps} {s : ByteArray} (h : isT T s σ = true) : muP T σ.adv < muP T σ := mu_adv_lt (isT_in h) (isT_kind h).1
theorem adv_in {T : List Tok} (ht : Toks T) {σ : Ps} {s : ByteArray} (h : isT T s σ = true) : σ.adv.In T := In.adv ht (isT_in h) (by have := (isT_kind h).2.1; omega)
-- types
theorem typF_lt (T : List Tok) (x : ByteArray × Ps) (h : typC T x = true) : muP T (typF T x).2 < muP T x.2 := Nat.lt_of_le_of_lt (mu_take (T := T) 1) (adv_lt h)
theorem typ_le (T : List Tok) (σ : Ps) : muP T (typP T σ).2 ≤ muP T (takeS T 1 σ) := iter_le (mu := fun x : ByteArray × Ps => muP T x.2) (typF_lt T) _ _
theorem typ_in {T : List Tok} (ht : Toks T) {σ : Ps} (h : σ.In T) : (typP T σ).2.In T := iter_inv (P := fun x : ByteArray × Ps => x.2.In T) (fun x hc _ => In.take ht (k := 1) (adv_in ht hc) (by decide)) _ _ (In.take ht (k := 1) h (by decide))
theorem tail_le (T : List Tok) (r : Bool) (o : ByteArray) (p : Int) (σ : Ps) : muP T (tailP T r o p σ).2 ≤ muP T (takeS T 1 σ) :=
  Nat.le_trans (mu_want _) (Nat.le_trans (mu_take _) (Nat.le_trans (mu_want _) (Nat.le_trans (mu_take _) (typ_le T σ))))
theorem tail_in {T : List Tok} (ht : Toks T) {σ : Ps} (h : σ.In T) (r : Bool) (o : ByteArray) (p : Int) : (tailP T r o p σ).2.In T :=
  In.want ht (In.take ht (In.want ht (In.take ht (typ_in ht h) (by decide)) _) (by decide)) _
theorem more_code {T : List Tok} {σ : Ps} (h : moreC T σ = true) : σ.code = 0 := by
  unfold moreC at h
  simp only [Bool.and_eq_true] at h
  simpa using h.1
-- enums
theorem val_le (T : List Tok) (σ : Ps) : muP T (valP T σ).2 ≤ muP T (takeS T 1 σ) := Nat.le_trans (mu_want _) (Nat.le_trans (mu_take _) (Nat.le_trans (mu_has _) (mu_want _)))
theorem val_in {T : List Tok} (ht : Toks T) {σ : Ps} (h : σ.In T) : (valP T σ).2.In T := In.want ht (In.take ht (In.has ht (In.want ht (In.take ht h (by decide)) _) _) (by decide)) _
theorem enumF_lt (T : List Tok) (x : List EnumVal × Ps) (h : moreC T x.2 = true) : muP T (enumF T x).2 < muP T x.2 := Nat.lt_of_le_of_lt (val_le T x.2) (take_lt (by decide) (more_code h))
def enumX (T : List Tok) (σ : Ps) : List EnumVal × Ps := iter (fun x => moreC T x.2) (enumF T) (muP T (want T lbr (takeS T 1 σ.adv))) ([], want T lbr (takeS T 1 σ.adv))
theorem enum_le (T : List Tok) (σ : Ps) : muP T (enumP T σ).2 ≤ muP T σ.adv := Nat.le_trans (mu_has _) (Nat.le_trans (iter_le (mu := fun x : List EnumVal × Ps => muP T x.2) (enumF_lt T) _ _) (Nat.le_trans (mu_want _) (mu_take _)))
theorem enum_in {T : List Tok} (ht : Toks T) {σ : Ps} (h : σ.adv.In T) : (enumP T σ).2.In T := In.has ht (iter_inv (P := fun x : List EnumVal × Ps => x.2.In T) (fun x _ hx => val_in ht hx) _ _ (In.want ht (In.take ht h (by decide)) _)) _
-- oneofs
theorem oneF_lt (T : List Tok) (n : ByteArray) (x : List Field × Ps) (h : moreC T x.2 = true) : muP T (oneF T n x).2 < muP T x.2 := Nat.lt_of_le_of_lt (tail_le T false n (now T x.2).pos x.2) (take_lt (by decide) (more_code h))
theorem one_le (T : List Tok) (fs : List Field) (σ : Ps) : muP T (oneP T fs σ).2 ≤ muP T σ.adv := Nat.le_trans (mu_has _) (Nat.le_trans (iter_le (mu := fun x : List Field × Ps => muP T x.2) (oneF_lt T _) _ _) (Nat.le_trans (mu_want _) (mu_take _)))
theorem one_in {T : List Tok} (ht : Toks T) {σ : Ps} (fs : List Field) (h : σ.adv.In T) : (oneP T fs σ).2.In T := In.has ht (iter_inv (P := fun x : List Field × Ps => x.2.In T) (fun x _ hx => tail_in ht hx false (nameT T σ.adv) (now T x.2).pos) _ _ (In.want ht (In.take ht h (by decide)) _)) _
-- reserved
theorem resF_lt (T : List Tok) (x : List Int × Ps) (h : isT T comma x.2 = true) : muP T (resF T x).2 < muP T x.2 := Nat.lt_of_le_of_lt (mu_take _) (adv_lt h)
theorem res_le (T : List Tok) (l : List Int) (σ : Ps) : muP T (resP' T l σ).2 ≤ muP T σ.adv := Nat.le_trans (mu_want _) (Nat.le_trans (iter_le (mu := fun x : List Int × Ps => muP T x.2) (resF_lt T) _ _) (mu_take _))
theorem res_in {T : List Tok} (ht : Toks T) {σ : Ps} (l : List Int) (h : σ.adv.In T) : (resP' T l σ).2.In T := In.want ht (iter_inv (P := fun x : List Int × Ps => x.2.In T) (fun x hc hx => In.take ht (adv_in ht hc) (by decide)) _ _ (In.take ht h (by decide))) _
-- fields, messages
theorem fld_lt (T : List Tok) {σ : Ps} (h : σ.code = 0) : muP T (fldP T σ).2 < muP T σ := by
  refine Nat.lt_of_le_of_lt (tail_le T _ _ _ _) ?_
  unfold hasS
  cases hb : isT T repeatedB σ with
  | true => exact Nat.lt_of_le_of_lt (mu_take _) (adv_lt hb)
  | false => exact take_lt (by decide) h
theorem fld_in {T : List Tok} (ht : Toks T) {σ : Ps} (h : σ.In T) : (fldP T σ).2.In T := tail_in ht (In.has ht h _) _ _ _
theorem msgF_lt (T : List Tok) {sub : Ps → Message × Ps} (hs : ∀ σ, σ.code = 0 → muP T (sub σ).2 < muP T σ) (x : Message × Ps) (h : moreC T x.2 = true) : muP T (msgF T sub x).2 < muP T x.2 := by
  have hc := more_code h
  unfold msgF
  dsimp only
  cases h1 : isT T messageB x.2 with
  | true => exact hs _ hc
  | false =>
    cases h2 : isT T enumB x.2 with
    | true => exact Nat.lt_of_le_of_lt (enum_le T _) (adv_lt h2)
    | false =>
      cases h3 : isT T oneofB x.2 with
      | true => exact Nat.lt_of_le_of_lt (one_le T _ _) (adv_lt h3)
      | false =>
        cases h4 : isT T reservedB x.2 with
        | true => exact Nat.lt_of_le_of_lt (res_le T _ _) (adv_lt h4)
        | false => exact fld_lt T hc
theorem msg_lt (T : List Tok) : ∀ (k : Nat) (σ : Ps), σ.code = 0 → muP T (msgP T k σ).2 < muP T σ
  | 0, σ, h => by
    show muP T (fails T 16 σ) < _
    rw [mu_fails (by decide)]; exact mu_pos h
  | k + 1, σ, h => Nat.lt_of_le_of_lt (Nat.le_trans (mu_has _) (Nat.le_trans (iter_le (mu := fun x : Message × Ps => muP T x.2) (msgF_lt T (msg_lt T k)) _ _) (Nat.le_trans (mu_want _) (mu_take _)))) (want_lt messageB h)
theorem msgF_in {T : List Tok} (ht : Toks T) {sub : Ps → Message × Ps} (hs : ∀ σ, σ.In T → (sub σ).2.In T) (x : Message × Ps) (h : x.2.In T) : (msgF T sub x).2.In T := by
  unfold msgF
  dsimp only
  cases h1 : isT T messageB x.2 with
  | true => exact hs _ h
  | false =>
    cases h2 : isT T enumB x.2 with
    | true => exact enum_in ht (adv_in ht h2)
    | false =>
      cases h3 : isT T oneofB x.2 with
      | true => exact one_in ht _ (adv_in ht h3)
      | false =>
        cases h4 : isT T reservedB x.2 with
        | true => exact res_in ht _ (adv_in ht h4)
        | false => exact fld_in ht h
theorem msg_in {T : List Tok} (ht : Toks T) : ∀ (k : Nat) (σ : Ps), σ.In T → (msgP T k σ).2.In T
  | 0, σ, h => In.fails h
  | k + 1, σ, h => In.has ht (iter_inv (P := fun x : Message × Ps => x.2.In T) (fun x _ hx => msgF_in ht (msg_in ht k) x hx) _ _ (In.want ht (In.take ht (In.want ht h _) (by decide)) _)) _
theorem fileC_code {T : List Tok} {σ : Ps} (h : fileC T σ = true) : σ.code = 0 := by
  unfold fileC at h
  simp only [Bool.and_eq_true] at h
  simpa using h.1
theorem fileF_lt (T : List Tok) (x : File × Ps) (h : fileC T x.2 = true) : muP T (fileF T x).2 < muP T x.2 := by
  unfold fileF
  cases h2 : isT T enumB x.2 with
  | true => exact Nat.lt_of_le_of_lt (enum_le T _) (adv_lt h2)
  | false => exact msg_lt T 8 _ (fileC_code h)
theorem fileF_in {T : List Tok} (ht : Toks T) (x : File × Ps) (h : x.2.In T) : (fileF T x).2.In T := by
  unfold fileF
  cases h2 : isT T enumB x.2 with
  | true => exact enum_in ht (adv_in ht h2)
  | false => exact msg_in ht 8 _ h
end Ev
open Go Ev
open Go.Proofs
set_option maxRecDepth 100000
set_option maxHeartbeats 4000000
set_option linter.unusedVariables false
namespace Ev
theorem size_app (a b : ByteArray) : (a ++ b).size = a.size + b.size := ByteArray.size_append
theorem take_at {T : List Tok} (hT : Toks T) {σ : Ps} (h : σ.In T) : (nameT T σ).size + 20 * σ.at' ≤ 20 * (takeS T 1 σ).at' := by
  have hs := hT.size _ (now_mem h)
  unfold nameT takeS fails
  cases kindT T 1 σ with
  | true => show (now T σ).text.size + _ ≤ 20 * (σ.at' + 1); omega
  | false =>
    cases σ.code == 0 with
    | true => show ByteArray.empty.size + _ ≤ _; simp [pick]
    | false => show ByteArray.empty.size + _ ≤ _; simp [pick]
theorem specType {T : List Tok} (hT : Toks T) {σ : Ps} (h : σ.In T) : Fn Try.prog [] 189 [.ptr 0 [] 0 0] [psOb T σ] (ret [.sc (.string (typP T σ).1)] [psOb T (typP T σ).2]) := by
  have hN := specName hT h
  have hin : (takeS T 1 σ).In T := In.take hT h (by decide)
  have ha := take_at hT h
  have hr : typP T σ = iter (typC T) (typF T) (muP T (takeS T 1 σ)) (nameT T σ, takeS T 1 σ) := rfl
  generalize typP T σ = R at *
  generalize nameT T σ = n0 at *
  generalize takeS T 1 σ = σ1 at *
  refine fn_of Try.func189 (by kernel_rfl) ?_
  conv => whnf
  refine Fn.use (hN) ?_
  conv => whnf
  first | refine ⟨trivial, ?_⟩ | refine ⟨⟨rfl, clr_of rfl⟩, ?_⟩
  conv => whnf
  refine loop_of (A := ByteArray × Ps) (fun x => ⟨[(0, .ptr 0 [] 0 0), (3, .sc (.string x.1))], [(0, some (psOb T x.2))], 1, 14, 1⟩) (fun x => muP T x.2) (fun x => x.2.In T ∧ x.1.size ≤ 21 * x.2.at' ∧ iter (typC T) (typF T) (muP T x.2) x = R) (n0, σ1) rfl ⟨hin, by dsimp only; omega, hr.symm⟩ ?_
  clear hr ha hin hN h
  intro ⟨s, σ⟩ ⟨h, hs, hr⟩ X ih
  dsimp only at h hs hr
  have hH := specHas hT h dotB
  have hc : typC T (s, σ) = isT T dotB σ := rfl
  conv => whnf
  refine Fn.use (hH) ?_
  conv => whnf
  first | refine ⟨trivial, ?_⟩ | refine ⟨⟨rfl, clr_of rfl⟩, ?_⟩
  conv => whnf
  refine ifP_of (fun h1 => ?_) (fun h1 => ?_)
  · rw [h1] at hc
    rw [iter_yes (mu := fun x : ByteArray × Ps => muP T x.2) (typF_lt T) hc] at hr
    have hlt := typF_lt T (s, σ) hc
    have hS : hasS T dotB σ = σ.adv := by unfold hasS; rw [h1]; rfl
    have hi := adv_in hT h1
    have hN := specName hT hi
    have ha := take_at hT hi
    have hi2 : (takeS T 1 σ.adv).In T := In.take hT hi (by decide)
    have hf : typF T (s, σ) = (s ++ dotB ++ nameT T σ.adv, takeS T 1 σ.adv) := rfl
    have hadv : σ.adv.at' = σ.at' + 1 := rfl
    have hb : σ.at' < T.length := h
    have hb2 := hT.len
    have hsz : dotB.size = 1 := rfl
    rw [hS]
    rw [hf] at hr hlt
    generalize nameT T σ.adv = n at *
    generalize takeS T 1 σ.adv = σ2 at *
    have hb3 : σ2.at' < T.length := hi2
    rw [h1]
    conv => whnf
    refine chkP_of ?hchk ?_
    case hchk => first | exact decide_eq_true (by omega) | (simp; done) | (simp; omega) | exact decide_eq_true (show s.size + dotB.size ≤ 9223372036854775807 by omega)
    conv => whnf
    refine Fn.use (hN) ?_
    conv => whnf
    first | refine ⟨trivial, ?_⟩ | refine ⟨⟨rfl, clr_of rfl⟩, ?_⟩
    conv => whnf
    refine chkP_of ?hchk ?_
    case hchk => first | exact decide_eq_true (by omega) | (simp; done) | (simp; omega) | exact decide_eq_true (show (s ++ dotB).size + n.size ≤ 9223372036854775807 by rw [size_app]; omega)
    conv => whnf
    exact ih (s ++ dotB ++ n, σ2) ⟨hi2, by dsimp only; rw [size_app, size_app]; omega, hr⟩ hlt
  · rw [h1] at hc
    rw [iter_no hc] at hr
    have hS : hasS T dotB σ = σ := by unfold hasS; rw [h1]; rfl
    subst hr
    rw [hS, h1]
    conv => whnf
    exact ⟨rfl, rfl⟩
theorem specTail {T : List Tok} (hT : Toks T) {σ : Ps} (h : σ.In T) (f : Field) (hn : f.name = .empty) : Fn Try.prog [] 142 [.ptr 0 [] 0 0, .agg f.acells] [psOb T σ] (ret [.agg (tailP T f.rep f.oneof f.pos σ).1.acells] [psOb T (tailP T f.rep f.oneof f.pos σ).2]) := by
  obtain ⟨name, ty, num, rep, one, pos⟩ := f
  have h1 := typ_in hT h
  have h2 := In.take hT (k := 1) h1 (by decide)
  have h3 := In.want hT h2 eqs
  have h4 := In.take hT (k := 2) h3 (by decide)
  have H1 := specType hT h
  have H2 := specName hT h1
  have H3 := specWant hT h2 eqs
  have H4 := specInt hT h3
  have H5 := specWant hT h4 semi
  dsimp only
  have hr : tailP T rep one pos σ = (⟨nameT T (typP T σ).2, (typP T σ).1, intT T (want T eqs (takeS T 1 (typP T σ).2)), rep, one, pos⟩, want T semi (takeS T 2 (want T eqs (takeS T 1 (typP T σ).2)))) := rfl
  rw [hr]
  clear hr
  generalize typP T σ = R1 at *
  obtain ⟨s1, σ1⟩ := R1
  dsimp only at *
  generalize nameT T σ1 = s2 at *
  generalize takeS T 1 σ1 = σ2 at *
  generalize want T eqs σ2 = σ3 at *
  generalize intT T σ3 = n at *
  generalize takeS T 2 σ3 = σ4 at *
  generalize want T semi σ4 = σ5 at *
  refine fn_of Try.func142 (by kernel_rfl) ?_
  conv => whnf
  refine Fn.use (H1) ?_
  conv => whnf
  first | refine ⟨trivial, ?_⟩ | refine ⟨⟨rfl, clr_of rfl⟩, ?_⟩
  conv => whnf
  refine Fn.use (H2) ?_
  conv => whnf
  first | refine ⟨trivial, ?_⟩ | refine ⟨⟨rfl, clr_of rfl⟩, ?_⟩
  conv => whnf
  refine Fn.use (H3) ?_
  conv => whnf
  first | refine ⟨trivial, ?_⟩ | refine ⟨⟨rfl, clr_of rfl⟩, ?_⟩
  conv => whnf
  refine Fn.use (H4) ?_
  conv => whnf
  first | refine ⟨trivial, ?_⟩ | refine ⟨⟨rfl, clr_of rfl⟩, ?_⟩
  conv => whnf
  refine Fn.use (H5) ?_
  conv => whnf
  first | refine ⟨trivial, ?_⟩ | refine ⟨⟨rfl, clr_of rfl⟩, ?_⟩
  conv => whnf
  exact ⟨rfl, rfl⟩
end Ev
open Go Ev
open Go.Proofs
set_option maxRecDepth 100000
set_option maxHeartbeats 4000000
set_option linter.unusedVariables false
namespace Ev
theorem EnumVal.css_snoc (l : List EnumVal) (a : EnumVal) : EnumVal.css l ++ [a.cells] = EnumVal.css (l ++ [a]) := by
  induction l with
  | nil => rw [EnumVal.css, List.nil_append, List.nil_append, EnumVal.css, EnumVal.cs_eq]; rfl
  | cons b l ih => rw [EnumVal.css, List.cons_append, List.cons_append, EnumVal.css, ih]
def oneC : V → Bool
  | .sc x => x.oneCell'
  | _ => false
theorem one_row {d own : Bool} {row : List V} (h : row.all oneC = true) : OneEs d own [row] := fun e he v hv => by
  obtain rfl := List.mem_singleton.1 he
  have := List.all_eq_true.1 h v hv
  cases v with
  | sc x => exact this
  | _ => cases this
theorem mu_le {T : List Tok} (hT : Toks T) (σ : Ps) : muP T σ ≤ 1502 := by
  have := hT.len
  unfold muP
  cases σ.code == 0 <;> simp only [pick] <;> omega
theorem specEnum {T : List Tok} (hT : Toks T) {σ : Ps} (hi : isT T enumB σ = true) : Fn Try.prog [] 75 [.ptr 0 [] 0 0] [psOb T σ] (ret [.agg (enumP T σ).1.ocells] [psOb T (enumP T σ).2]) := by
  have h := isT_in hi
  have h1 := adv_in hT hi
  have h2 := In.take hT (k := 1) h1 (by decide)
  have h3 := In.want hT h2 lbr
  have H0 := specNow h
  have H1 := specWant hT h enumB
  have e1 : want T enumB σ = σ.adv := by unfold want; rw [hi]; rfl
  rw [e1] at H1
  have H2 := specName hT h1
  have H3 := specWant hT h2 lbr
  refine fn_of Try.func75 (by kernel_rfl) ?_
  conv => whnf
  refine Fn.use (H0) ?_
  conv => whnf
  first | refine ⟨trivial, ?_⟩ | refine ⟨⟨rfl, clr_of rfl⟩, ?_⟩
  conv => whnf
  refine Fn.use (H1) ?_
  conv => whnf
  first | refine ⟨trivial, ?_⟩ | refine ⟨⟨rfl, clr_of rfl⟩, ?_⟩
  conv => whnf
  refine Fn.use (H2) ?_
  conv => whnf
  first | refine ⟨trivial, ?_⟩ | refine ⟨⟨rfl, clr_of rfl⟩, ?_⟩
  conv => whnf
  refine Fn.use (H3) ?_
  conv => whnf
  first | refine ⟨trivial, ?_⟩ | refine ⟨⟨rfl, clr_of rfl⟩, ?_⟩
  conv => whnf
  have hr : enumP T σ = (⟨nameT T σ.adv, (iter (fun x : List EnumVal × Ps => moreC T x.2) (enumF T) (muP T (want T lbr (takeS T 1 σ.adv))) ([], want T lbr (takeS T 1 σ.adv))).1, (now T σ).pos⟩, hasS T rbr (iter (fun x : List EnumVal × Ps => moreC T x.2) (enumF T) (muP T (want T lbr (takeS T 1 σ.adv))) ([], want T lbr (takeS T 1 σ.adv))).2) := rfl
  rw [hr]
  clear hr H0 H1 H2 H3 e1
  generalize nameT T σ.adv = n0 at *
  generalize (now T σ).pos = p0 at *
  generalize want T lbr (takeS T 1 σ.adv) = σ3 at *
  generalize hR : iter (fun x : List EnumVal × Ps => moreC T x.2) (enumF T) (muP T σ3) ([], σ3) = R
  have hml := mu_le hT σ3
  refine loop_of (A := List EnumVal × Ps) (fun x => ⟨[(0, .ptr 0 [] 0 0), (2, .ptr 1 [] 0 0), (3, .ptr 2 [] 0 0)], [(1, some ⟨[[.sc (.string .empty), .own true 3 [], .sc (.int .i64 0)]], true, 3, true⟩), (2, some ⟨[[.sc (.string n0), .own true 3 (EnumVal.css x.1), .sc (.int .i64 p0)]], true, 3, true⟩), (0, some (psOb T x.2))], 3, 55, 1⟩) (fun x => muP T x.2) (fun x => x.2.In T ∧ x.1.length + muP T x.2 ≤ 1502 ∧ iter (fun x : List EnumVal × Ps => moreC T x.2) (enumF T) (muP T x.2) x = R) ([], σ3) rfl ⟨h3, by dsimp only [List.length_nil]; omega, hR⟩ ?_
  clear hR hml h h1 h2 h3 hi
  clear σ σ3
  intro ⟨vs, σ⟩ ⟨h, hs, hr⟩ X ih
  dsimp only at h hs hr
  have hm : (fun x : List EnumVal × Ps => moreC T x.2) (vs, σ) = (σ.code == 0 && !isT T rbr σ) := rfl
  have hH := specHas hT h rbr
  have hb : isT T rbr σ = (σ.code == 0 && (((now T σ).kind == 3 || (now T σ).kind == 1) && sameT (now T σ).text rbr)) := rfl
  have hS : hasS T rbr σ = pick (isT T rbr σ) σ.adv σ := rfl
  generalize isT T rbr σ = b at *
  have hexit : (σ.code == 0 && !b) = false → R = (vs, σ) := fun e => by rw [← hr]; exact iter_no (hm.trans e)
  conv => whnf
  refine ifP_of (fun h1 => ?_) (fun h1 => ?_)
  rotate_left
  · have h1 : (σ.code == 0) = false := h1
    rw [h1] at hb hexit
    subst hb
    rw [hexit rfl]
    conv => whnf
    dsimp only
    rw [hS]
    exact ⟨rfl, rfl⟩
  have h1 : (σ.code == 0) = true := h1
  rw [h1] at hexit hm
  conv => whnf
  refine Fn.use (hH) ?_
  conv => whnf
  first | refine ⟨trivial, ?_⟩ | refine ⟨⟨rfl, clr_of rfl⟩, ?_⟩
  conv => whnf
  refine ifP_of (fun h2 => ?_) (fun h2 => ?_)
  rotate_left
  · have h2 : b = true := by simpa using h2
    subst h2
    rw [hexit rfl]
    conv => whnf
    dsimp only
    exact ⟨rfl, rfl⟩
  have h2 : b = false := by simpa using h2
  subst h2
  rw [show hasS T rbr σ = σ from hS]
  have hcode : σ.code = 0 := by simpa using h1
  rw [iter_yes (mu := fun x : List EnumVal × Ps => muP T x.2) (enumF_lt T) hm] at hr
  have hlt := enumF_lt T (vs, σ) hm
  clear hm hexit hS hb hH h1 h2
  have g1 := In.take hT (k := 1) h (by decide)
  have g2 := In.want hT g1 eqs
  have g3 := In.has hT g2 minus
  have g4 := In.take hT (k := 2) g3 (by decide)
  have g5 := In.want hT g4 semi
  have G0 := specNow h
  have G1 := specName hT h
  have G2 := specWant hT g1 eqs
  have G3 := specHas hT g2 minus
  have G4 := specInt hT g3
  have G5 := specWant hT g4 semi
  have hf : enumF T (vs, σ) = (vs ++ [⟨nameT T σ, numP (isT T minus (want T eqs (takeS T 1 σ))) (intT T (hasS T minus (want T eqs (takeS T 1 σ)))), (now T σ).pos⟩], want T semi (takeS T 2 (hasS T minus (want T eqs (takeS T 1 σ))))) := rfl
  rw [hf] at hr hlt
  clear hf
  generalize now T σ = t at *
  generalize nameT T σ = nm at *
  generalize takeS T 1 σ = σ1 at *
  generalize want T eqs σ1 = σ2 at *
  generalize isT T minus σ2 = neg at *
  generalize hasS T minus σ2 = σ3 at *
  generalize intT T σ3 = num at *
  generalize takeS T 2 σ3 = σ4 at *
  generalize want T semi σ4 = σ5 at *
  conv => whnf
  refine Fn.use (G0) ?_
  conv => whnf
  first | refine ⟨trivial, ?_⟩ | refine ⟨⟨rfl, clr_of rfl⟩, ?_⟩
  conv => whnf
  refine Fn.use (G1) ?_
  conv => whnf
  first | refine ⟨trivial, ?_⟩ | refine ⟨⟨rfl, clr_of rfl⟩, ?_⟩
  conv => whnf
  refine Fn.use (G2) ?_
  conv => whnf
  first | refine ⟨trivial, ?_⟩ | refine ⟨⟨rfl, clr_of rfl⟩, ?_⟩
  conv => whnf
  refine Fn.use (G3) ?_
  conv => whnf
  first | refine ⟨trivial, ?_⟩ | refine ⟨⟨rfl, clr_of rfl⟩, ?_⟩
  conv => whnf
  refine Fn.use (G4) ?_
  conv => whnf
  first | refine ⟨trivial, ?_⟩ | refine ⟨⟨rfl, clr_of rfl⟩, ?_⟩
  conv => whnf
  have fin : X ⟨[(0, .ptr 0 [] 0 0), (2, .ptr 1 [] 0 0), (3, .ptr 2 [] 0 0)], [(1, some ⟨[[.sc (.string .empty), .own true 3 [], .sc (.int .i64 0)]], true, 3, true⟩), (2, some ⟨[[.sc (.string n0), .own true 3 (EnumVal.css vs ++ [EnumVal.cells ⟨nm, numP neg num, t.pos⟩]), .sc (.int .i64 p0)]], true, 3, true⟩), (0, some (psOb T σ5))], 3, 55, 1⟩ := by
    rw [EnumVal.css_snoc]
    exact ih _ ⟨g5, by rw [List.length_append]; dsimp only at hlt ⊢; simp only [List.length_cons, List.length_nil]; omega, hr⟩ hlt
  have hlen := EnumVal.css_len vs
  refine ifP_of (fun h3 => ?_) (fun h3 => ?_)
  · have h3 : neg = true := h3
    subst h3
    conv => whnf
    refine Fn.use (G5) ?_
    conv => whnf
    first | refine ⟨trivial, ?_⟩ | refine ⟨⟨rfl, clr_of rfl⟩, ?_⟩
    conv => whnf
    refine ⟨one_row rfl, ?_⟩
    conv => whnf
    refine chkP_of ?hchk ?_
    case hchk => first | exact decide_eq_true (by omega) | (simp; done) | (simp; omega) | exact decide_eq_true (show ((EnumVal.css vs).length + 1) * 32 ≤ 140737488355328 by omega)
    conv => whnf
    exact fin
  · have h3 : neg = false := h3
    subst h3
    conv => whnf
    refine Fn.use (G5) ?_
    conv => whnf
    first | refine ⟨trivial, ?_⟩ | refine ⟨⟨rfl, clr_of rfl⟩, ?_⟩
    conv => whnf
    refine ⟨one_row rfl, ?_⟩
    conv => whnf
    refine chkP_of ?hchk ?_
    case hchk => first | exact decide_eq_true (by omega) | (simp; done) | (simp; omega) | exact decide_eq_true (show ((EnumVal.css vs).length + 1) * 32 ≤ 140737488355328 by omega)
    conv => whnf
    exact fin
end Ev
open Go Ev
open Go.Proofs
set_option maxRecDepth 100000
set_option maxHeartbeats 4000000
set_option linter.unusedVariables false
namespace Ev
theorem Field.css_snoc (l : List Field) (a : Field) : Field.css l ++ [a.cells] = Field.css (l ++ [a]) := by
  induction l with
  | nil => rw [Field.css, List.nil_append, List.nil_append, Field.css, Field.cs_eq]; rfl
  | cons b l ih => rw [Field.css, List.cons_append, List.cons_append, Field.css, ih]
theorem strC_snoc (l : List ByteArray) (b : ByteArray) : strC l ++ [[.sc (.string b)]] = strC (l ++ [b]) := by unfold strC; rw [List.map_append]; rfl
theorem intC_snoc (l : List Int) (b : Int) : intC l ++ [[.sc (.int .i64 b)]] = intC (l ++ [b]) := by unfold intC; rw [List.map_append]; rfl
theorem oneF_len {T : List Tok} {n : ByteArray} {N : Nat} (x : List Field × Ps) (hc : moreC T x.2 = true) (h : x.1.length + muP T x.2 ≤ N) : (oneF T n x).1.length + muP T (oneF T n x).2 ≤ N := by
  have h1 := oneF_lt T n x hc
  have : (oneF T n x).1.length = x.1.length + 1 := by unfold oneF; rw [List.length_append]; rfl
  omega
theorem specOneof {T : List Tok} (hT : Toks T) {σ : Ps} (hi : isT T oneofB σ = true) (m : Message) (hm1 : m.fields.length + muP T σ ≤ 1502) (hm2 : m.oneofs.length + muP T σ ≤ 1502) : Fn Try.prog [] 141 [.ptr 0 [] 0 0, .ptr 1 [] 0 0] [psOb T σ, ⟨[m.ocells], true, 7, true⟩] (ret [] [psOb T (oneP T m.fields σ).2, ⟨[({m with oneofs := m.oneofs ++ [nameT T σ.adv], fields := (oneP T m.fields σ).1} : Message).ocells], true, 7, true⟩]) := by
  have h := isT_in hi
  have h1 := adv_in hT hi
  have h2 := In.take hT (k := 1) h1 (by decide)
  have h3 := In.want hT h2 lbr
  have H1 := specWant hT h oneofB
  have e1 : want T oneofB σ = σ.adv := by unfold want; rw [hi]; rfl
  rw [e1] at H1
  have H2 := specName hT h1
  have H3 := specWant hT h2 lbr
  have hmu : muP T (want T lbr (takeS T 1 σ.adv)) ≤ muP T σ := Nat.le_trans (mu_want _) (Nat.le_trans (mu_take _) mu_adv)
  obtain ⟨name, fields, oneofs, reserved, messages, enums, pos⟩ := m
  dsimp only at hm1 hm2
  have hlo := strC_len oneofs
  have hr : oneP T fields σ = ((iter (fun x : List Field × Ps => moreC T x.2) (oneF T (nameT T σ.adv)) (muP T (want T lbr (takeS T 1 σ.adv))) (fields, want T lbr (takeS T 1 σ.adv))).1, hasS T rbr (iter (fun x : List Field × Ps => moreC T x.2) (oneF T (nameT T σ.adv)) (muP T (want T lbr (takeS T 1 σ.adv))) (fields, want T lbr (takeS T 1 σ.adv))).2) := rfl
  dsimp only
  rw [hr]
  clear hr e1
  refine fn_of Try.func141 d141 ?_
  conv => whnf
  refine Fn.use (H1) ?_
  conv => whnf
  first | refine ⟨trivial, ?_⟩ | refine ⟨⟨rfl, clr_of rfl⟩, ?_⟩
  conv => whnf
  refine Fn.use (H2) ?_
  conv => whnf
  first | refine ⟨trivial, ?_⟩ | refine ⟨⟨rfl, clr_of rfl⟩, ?_⟩
  conv => whnf
  refine ⟨one_row rfl, ?_⟩
  conv => whnf
  refine chkP_of ?hchk ?_
  case hchk => first | exact decide_eq_true (by omega) | (simp; done) | (simp; omega) | exact decide_eq_true (show ((strC oneofs).length + 1) * 16 ≤ 140737488355328 by omega)
  conv => whnf
  refine Fn.use (H3) ?_
  conv => whnf
  first | refine ⟨trivial, ?_⟩ | refine ⟨⟨rfl, clr_of rfl⟩, ?_⟩
  conv => whnf
  clear H1 H2 H3
  generalize hn : nameT T σ.adv = n0 at *
  generalize want T lbr (takeS T 1 σ.adv) = σ3 at *
  generalize hR : iter (fun x : List Field × Ps => moreC T x.2) (oneF T n0) (muP T σ3) (fields, σ3) = R
  refine loop_of (A := List Field × Ps) (fun x => ⟨[(0, .ptr 0 [] 0 0), (1, .ptr 1 [] 0 0), (4, .sc (.string n0))], [(1, some ⟨[[.sc (.string name), .own true 6 (Field.css x.1), .own true 1 (strC oneofs ++ [[.sc (.string n0)]]), .own true 1 (intC reserved), .own true 7 (Message.css messages), .own true 3 (Enum.css enums), .sc (.int .i64 pos)]], true, 7, true⟩), (0, some (psOb T x.2))], 2, 48, 2⟩) (fun x => muP T x.2) (fun x => x.2.In T ∧ x.1.length + muP T x.2 ≤ 1502 ∧ iter (fun x : List Field × Ps => moreC T x.2) (oneF T n0) (muP T x.2) x = R) (fields, σ3) rfl ⟨h3, by dsimp only; omega, hR⟩ ?_
  clear hR hmu h h1 h2 h3 hi hm1 hm2 hn
  clear σ σ3
  intro ⟨vs, σ⟩ ⟨h, hs, hr⟩ X ih
  dsimp only at h hs hr
  have hm : (fun x : List Field × Ps => moreC T x.2) (vs, σ) = (σ.code == 0 && !isT T rbr σ) := rfl
  have hH := specHas hT h rbr
  have hb : isT T rbr σ = (σ.code == 0 && (((now T σ).kind == 3 || (now T σ).kind == 1) && sameT (now T σ).text rbr)) := rfl
  have hS : hasS T rbr σ = pick (isT T rbr σ) σ.adv σ := rfl
  generalize isT T rbr σ = b at *
  have hexit : (σ.code == 0 && !b) = false → R = (vs, σ) := fun e => by rw [← hr]; exact iter_no (hm.trans e)
  conv => whnf
  refine ifP_of (fun h1 => ?_) (fun h1 => ?_)
  rotate_left
  · have h1 : (σ.code == 0) = false := h1
    rw [h1] at hb hexit
    subst hb
    rw [hexit rfl]
    conv => whnf
    dsimp only
    rw [hS]
    exact ⟨rfl, by rw [strC_snoc]; rfl⟩
  have h1 : (σ.code == 0) = true := h1
  rw [h1] at hexit hm
  conv => whnf
  refine Fn.use (hH) ?_
  conv => whnf
  first | refine ⟨trivial, ?_⟩ | refine ⟨⟨rfl, clr_of rfl⟩, ?_⟩
  conv => whnf
  refine ifP_of (fun h2 => ?_) (fun h2 => ?_)
  rotate_left
  · have h2 : b = true := by simpa using h2
    subst h2
    rw [hexit rfl]
    conv => whnf
    dsimp only
    exact ⟨rfl, by rw [strC_snoc]; rfl⟩
  have h2 : b = false := by simpa using h2
  subst h2
  rw [show hasS T rbr σ = σ from hS]
  rw [iter_yes (mu := fun x : List Field × Ps => muP T x.2) (oneF_lt T n0) hm] at hr
  have hlt := oneF_lt T n0 (vs, σ) hm
  have hle := oneF_len (n := n0) (vs, σ) hm hs
  clear hm hexit hS hb hH h1 h2
  have G0 := specNow h
  have g1 := tail_in hT h false n0 (now T σ).pos
  have G1 := specTail hT h ⟨.empty, .empty, 0, false, n0, (now T σ).pos⟩ rfl
  dsimp only at G1
  have hf : oneF T n0 (vs, σ) = (vs ++ [(tailP T false n0 (now T σ).pos σ).1], (tailP T false n0 (now T σ).pos σ).2) := rfl
  rw [hf] at hr hlt hle
  clear hf
  generalize tailP T false n0 (now T σ).pos σ = R1 at *
  obtain ⟨⟨f1, f2, f3, f4, f5, f6⟩, σ1⟩ := R1
  have hlen := Field.css_len vs
  conv => whnf
  have hne : ((Field.css vs).length + 1) * 72 ≤ 140737488355328 := by omega
  have fin : X ⟨[(0, .ptr 0 [] 0 0), (1, .ptr 1 [] 0 0), (4, .sc (.string n0))], [(1, some ⟨[[.sc (.string name), .own true 6 (Field.css vs ++ [Field.cells ⟨f1, f2, f3, f4, f5, f6⟩]), .own true 1 (strC oneofs ++ [[.sc (.string n0)]]), .own true 1 (intC reserved), .own true 7 (Message.css messages), .own true 3 (Enum.css enums), .sc (.int .i64 pos)]], true, 7, true⟩), (0, some (psOb T σ1))], 2, 48, 2⟩ := by
    rw [Field.css_snoc]
    exact ih _ ⟨g1, hle, hr⟩ hlt
  clear ih hr hle hlt hs hlen
  refine regP_go ?_
  repeat' (first
    | (refine Fn.use (G0) ?_; (conv => whnf); (first | refine ⟨trivial, ?_⟩ | refine ⟨⟨rfl, clr_of rfl⟩, ?_⟩); (conv => whnf))
    | (refine Fn.use (G1) ?_; (conv => whnf); (first | refine ⟨trivial, ?_⟩ | refine ⟨⟨rfl, clr_of rfl⟩, ?_⟩); (conv => whnf))
    | (refine chkP_of (decide_eq_true hne) ?_; (conv => whnf))
    | trivial
    | (refine ⟨one_row rfl, ?_⟩; (conv => whnf))
    | (refine And.intro ?_ ?_ <;> (conv => whnf))
    | (refine chkP_of ?hchk ?_; (case hchk => simp; done); (conv => whnf))
    | (refine ifP_of (fun _ => ?_) (fun _ => ?_) <;> (conv => whnf)))
  all_goals exact fin
end Ev
open Go Ev
open Go.Proofs
set_option maxRecDepth 100000
set_option maxHeartbeats 4000000
set_option linter.unusedVariables false
namespace Ev
theorem Message.css_snoc (l : List Message) (a : Message) : Message.css l ++ [a.cells] = Message.css (l ++ [a]) := by
  induction l with
  | nil => rw [Message.css, List.nil_append, List.nil_append, Message.css, Message.cs_eq, Message.css]
  | cons b l ih => rw [Message.css, List.cons_append, List.cons_append, Message.css, ih]
theorem Enum.css_snoc (l : List Enum) (a : Enum) : Enum.css l ++ [a.cells] = Enum.css (l ++ [a]) := by
  induction l with
  | nil => rw [Enum.css, List.nil_append, List.nil_append, Enum.css, Enum.cs_eq, Enum.css]
  | cons b l ih => rw [Enum.css, List.cons_append, List.cons_append, Enum.css, ih]
/-- The lists of a message that is being read are no longer than what has been read. -/
structure MsB (T : List Tok) (x : Message × Ps) : Prop where
  f : x.1.fields.length + muP T x.2 ≤ 1502
  o : x.1.oneofs.length + muP T x.2 ≤ 1502
  r : x.1.reserved.length + muP T x.2 ≤ 1502
  m : x.1.messages.length + muP T x.2 ≤ 1502
  e : x.1.enums.length + muP T x.2 ≤ 1502
theorem one_len {T : List Tok} (fs : List Field) {σ : Ps} {N : Nat} (h : fs.length + muP T σ.adv ≤ N) : (oneP T fs σ).1.length + muP T (oneP T fs σ).2 ≤ N := by
  have h0 : fs.length + muP T (want T lbr (takeS T 1 σ.adv)) ≤ N := by
    have := Nat.le_trans (mu_want (T := T) (σ := takeS T 1 σ.adv) lbr) (mu_take (T := T) (σ := σ.adv) 1)
    omega
  have h1 := iter_inv (c := fun x : List Field × Ps => moreC T x.2) (f := oneF T (nameT T σ.adv)) (P := fun x : List Field × Ps => x.1.length + muP T x.2 ≤ N) (fun x hc hx => oneF_len x hc hx) (muP T (want T lbr (takeS T 1 σ.adv))) (fs, want T lbr (takeS T 1 σ.adv)) h0
  have h2 : (oneP T fs σ).1.length + muP T (hasS T rbr (iter (fun x : List Field × Ps => moreC T x.2) (oneF T (nameT T σ.adv)) (muP T (want T lbr (takeS T 1 σ.adv))) (fs, want T lbr (takeS T 1 σ.adv))).2) ≤ N := Nat.le_trans (Nat.add_le_add_left (mu_has _) _) h1
  exact h2
theorem resF_len {T : List Tok} {N : Nat} (x : List Int × Ps) (hc : isT T comma x.2 = true) (h : x.1.length + muP T x.2 ≤ N) : (resF T x).1.length + muP T (resF T x).2 ≤ N := by
  have h1 := resF_lt T x hc
  have : (resF T x).1.length = x.1.length + 1 := by unfold resF; rw [List.length_append]; rfl
  omega
theorem res_len {T : List Tok} (l : List Int) {σ : Ps} {N : Nat} (h : l.length + 1 + muP T σ.adv ≤ N) : (resP' T l σ).1.length + muP T (resP' T l σ).2 ≤ N := by
  have h0 : (l ++ [intT T σ.adv]).length + muP T (takeS T 2 σ.adv) ≤ N := by
    have := mu_take (T := T) (σ := σ.adv) 2
    rw [List.length_append, List.length_singleton]
    omega
  have h1 := iter_inv (c := fun x : List Int × Ps => isT T comma x.2) (f := resF T) (P := fun x : List Int × Ps => x.1.length + muP T x.2 ≤ N) (fun x hc hx => resF_len x hc hx) (muP T (takeS T 2 σ.adv)) (l ++ [intT T σ.adv], takeS T 2 σ.adv) h0
  have h2 : (resP' T l σ).1.length + muP T (want T semi (iter (fun x : List Int × Ps => isT T comma x.2) (resF T) (muP T (takeS T 2 σ.adv)) (l ++ [intT T σ.adv], takeS T 2 σ.adv)).2) ≤ N := Nat.le_trans (Nat.add_le_add_left (mu_want _) _) h1
  exact h2
theorem msgF_b {T : List Tok} {sub : Ps → Message × Ps} (hs : ∀ σ, σ.code = 0 → muP T (sub σ).2 < muP T σ) (x : Message × Ps) (hc : moreC T x.2 = true) (h : MsB T x) : MsB T (msgF T sub x) := by
  have hlt := msgF_lt T hs x hc
  obtain ⟨⟨name, fields, oneofs, reserved, messages, enums, pos⟩, σ⟩ := x
  obtain ⟨b1, b2, b3, b4, b5⟩ := h
  dsimp only at b1 b2 b3 b4 b5 hlt
  unfold msgF at hlt ⊢
  dsimp only at hlt ⊢
  cases h1 : isT T messageB σ with
  | true =>
    rw [h1] at hlt
    simp only [pick] at hlt ⊢
    refine ⟨?_, ?_, ?_, ?_, ?_⟩ <;> dsimp only <;> (try rw [List.length_append, List.length_singleton]) <;> omega
  | false =>
    rw [h1] at hlt
    cases h2 : isT T enumB σ with
    | true =>
      rw [h2] at hlt
      simp only [pick] at hlt ⊢
      refine ⟨?_, ?_, ?_, ?_, ?_⟩ <;> dsimp only <;> (try rw [List.length_append, List.length_singleton]) <;> omega
    | false =>
      rw [h2] at hlt
      cases h3 : isT T oneofB σ with
      | true =>
        rw [h3] at hlt
        have hf := one_len (T := T) fields (σ := σ) (N := 1502) (by have := mu_adv (T := T) (σ := σ); omega)
        simp only [pick] at hlt ⊢
        refine ⟨?_, ?_, ?_, ?_, ?_⟩ <;> dsimp only <;> (try rw [List.length_append, List.length_singleton]) <;> omega
      | false =>
        rw [h3] at hlt
        cases h4 : isT T reservedB σ with
        | true =>
          rw [h4] at hlt
          have hf := res_len (T := T) reserved (σ := σ) (N := 1502) (by have := adv_lt h4; omega)
          simp only [pick] at hlt ⊢
          refine ⟨?_, ?_, ?_, ?_, ?_⟩ <;> dsimp only <;> (try rw [List.length_append, List.length_singleton]) <;> omega
        | false =>
          rw [h4] at hlt
          simp only [pick] at hlt ⊢
          refine ⟨?_, ?_, ?_, ?_, ?_⟩ <;> dsimp only <;> (try rw [List.length_append, List.length_singleton]) <;> omega
end Ev
