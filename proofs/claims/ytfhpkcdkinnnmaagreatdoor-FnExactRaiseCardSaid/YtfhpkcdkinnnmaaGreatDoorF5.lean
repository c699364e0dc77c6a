/- Contracts of functions of the given program, shown on the evaluator; each states its own conditions. -/
import Derived.Test.YtfhpkcdkinnnmaaGreatDoorF3
import Derived.Test.YtfhpkcdkinnnmaaGreatDoorF4
import Derived.Test.YtfhpkcdkinnnmaaGreatDoorF0
import Derived.Test.YtfhpkcdkinnnmaaGreatDoorF2
import Derived.Lib.AppendIntMem
open Go Ev
open Go.Proofs
set_option maxRecDepth 100000
set_option maxHeartbeats 4000000
set_option linter.unusedVariables false
namespace Ev
/-- A number's figures. -/
def decD (n : Nat) : ByteArray := ⟨(Lib.decDigits n).toArray⟩
theorem bytes_app (l m : List UInt8) : (⟨l.toArray⟩ : ByteArray) ++ ⟨m.toArray⟩ = ⟨(l ++ m).toArray⟩ := by
  apply ByteArray.ext
  simp
theorem decD_small {n : Nat} (h : n < 10) : decD n = ⟨[UInt8.ofNat (48 + n)].toArray⟩ := by
  unfold decD; rw [Lib.decDigits, dif_pos h]
theorem decD_big {n : Nat} (h : ¬ n < 10) : decD n = decD (n / 10) ++ ⟨[UInt8.ofNat (48 + n % 10)].toArray⟩ := by
  unfold decD; rw [bytes_app]; conv => lhs; rw [Lib.decDigits, dif_neg h]
theorem decD_size : ∀ (k n : Nat), n < 10 ^ (k + 1) → (decD n).size ≤ k + 1
  | 0, n, h => by rw [decD_small (by omega)]; exact Nat.le_refl 1
  | k + 1, n, h => by
    by_cases h1 : n < 10
    · rw [decD_small h1]; show 1 ≤ _; omega
    · rw [decD_big h1, ByteArray.size_append]
      have := decD_size k (n / 10) (by rw [Nat.pow_succ] at h; omega)
      have e : (⟨[UInt8.ofNat (48 + n % 10)].toArray⟩ : ByteArray).size = 1 := rfl
      omega
theorem fig_row {n : Nat} (h : n < 10) : IntKind.u8.wrap (IntKind.u64.wrap (48 + (n : Int))) = ((UInt8.ofNat (48 + n)).toNat : Int) := by
  rw [show (48 + (n : Int)) = ((48 + n : Nat) : Int) by omega, wrapU (by omega), u8k (by omega)]
  show _ = (((48 + n) % 256 : Nat) : Int)
  omega
theorem specFig : ∀ n : Nat, n < 18446744073709551616 → Fn Tryz.prog [] 59 [.sc (.int .u64 n)] [] (ret [.sc (.string (decD n))] []) := by
  intro n
  induction n using Nat.strongRecOn with
  | _ n ih =>
  intro hn
  by_cases hs : n < 10
  · have h10 : decide ((n : Int) < 10) = true := decide_eq_true (by omega)
    refine fn_of Tryz.func59 (by kernel_rfl) ?_
    conv => whnf
    refine ifP_yes h10 ?_
    conv => whnf
    refine ⟨[UInt8.ofNat (48 + n)], ?_, ?_⟩
    · rw [fig_row hs]; rfl
    conv => whnf
    rw [decD_small hs]
    exact ⟨rfl, rfl⟩
  · have h10 : decide ((n : Int) < 10) = false := decide_eq_false (by omega)
    have IH := ih (n / 10) (by omega) (by omega)
    have hq : IntKind.u64.wrap ((n : Int).tdiv 10) = ((n / 10 : Nat) : Int) := by
      rw [Int.tdiv_eq_ediv_of_nonneg (by omega), show (n : Int) / 10 = ((n / 10 : Nat) : Int) by omega, wrapU (by omega)]
    have hr : (n : Int).tmod 10 = ((n % 10 : Nat) : Int) := by rw [Int.tmod_eq_emod_of_nonneg (by omega)]; omega
    have hsz := decD_size 19 (n / 10) (by omega)
    have e1 : (⟨[UInt8.ofNat (48 + n % 10)].toArray⟩ : ByteArray).size = 1 := rfl
    have hc : (decD (n / 10)).size + (⟨[UInt8.ofNat (48 + n % 10)].toArray⟩ : ByteArray).size ≤ 9223372036854775807 := by omega
    rw [decD_big hs]
    generalize decD (n / 10) = D at *
    rw [← hq] at IH
    have hrow : [[V.sc (.int .u8 (IntKind.u8.wrap (IntKind.u64.wrap (48 + (n : Int).tmod 10))))]] = List.map byteRow [UInt8.ofNat (48 + n % 10)] := by rw [hr, fig_row (by omega)]; rfl
    refine fn_of Tryz.func59 (by kernel_rfl) ?_
    conv => whnf
    refine ifP_no h10 ?_
    conv => whnf
    refine regP_go ?_
    conv => whnf
    refine ⟨?_, ?_⟩
    conv => whnf
    refine Fn.use IH ⟨trivial, ?_⟩
    conv => whnf
    refine ⟨[UInt8.ofNat (48 + n % 10)], hrow, ?_⟩
    conv => whnf
    refine chkP_of ?hchk ?_
    case hchk => first | exact decide_eq_true (by omega) | (simp; done) | (simp; omega) | exact decide_eq_true hc
    conv => whnf
    exact ⟨rfl, rfl⟩
    conv => whnf
    refine ⟨?_, ?_⟩
    conv => whnf
    refine ⟨?_, ?_⟩
    conv => whnf
    refine Fn.use IH ⟨trivial, ?_⟩
    conv => whnf
    refine ⟨[UInt8.ofNat (48 + n % 10)], hrow, ?_⟩
    conv => whnf
    refine chkP_of ?hchk ?_
    case hchk => first | exact decide_eq_true (by omega) | (simp; done) | (simp; omega) | exact decide_eq_true hc
    conv => whnf
    exact ⟨rfl, rfl⟩
    conv => whnf
    refine ⟨?_, ?_⟩
    conv => whnf
    refine ⟨[UInt8.ofNat (48 + n % 10)], hrow, ?_⟩
    conv => whnf
    refine Fn.use IH ⟨trivial, ?_⟩
    conv => whnf
    refine chkP_of ?hchk ?_
    case hchk => first | exact decide_eq_true (by omega) | (simp; done) | (simp; omega) | exact decide_eq_true hc
    conv => whnf
    exact ⟨rfl, rfl⟩
    exact trivial
    exact trivial
theorem specDec (n : Nat) (hn : n < 9223372036854775808) : Fn Tryz.prog [] 31 [.sc (.int .i64 n)] [] (ret [.sc (.string (decD n))] []) := by
  have H := specFig n (by omega)
  have hw : IntKind.u64.wrap (n : Int) = n := wrapU (by omega)
  have h0 : decide ((n : Int) < 0) = false := decide_eq_false (by omega)
  refine fn_of Tryz.func31 (by kernel_rfl) ?_
  conv => whnf
  rw [hw]
  refine Fn.use (H) ?_
  conv => whnf
  first | refine ⟨trivial, ?_⟩ | refine ⟨⟨rfl, clr_of rfl⟩, ?_⟩
  conv => whnf
  exact ⟨rfl, rfl⟩
end Ev
open Go Ev
open Go.Proofs
set_option maxRecDepth 100000
set_option maxHeartbeats 4000000
set_option linter.unusedVariables false
namespace Ev
def ltr (c : UInt8) (n : Nat) : ByteArray := ⟨#[c]⟩ ++ decD n
def fieldD (o : Opr) : FieldDesc := ⟨ltr 102 o.num.toNat, o.num, o.kind, o.ref, o.rep, o.oneof⟩
def oneofsD (n : Nat) : List ByteArray := (List.range n).map fun i => ltr 111 (i + 1)
def descD (k : Nat) (m : Modu) : Desc := ⟨ltr 77 k, m.ops.map fieldD, oneofsD (mostO m.ops).toNat⟩
def descsD : Nat → List Modu → List Desc
  | _, [] => []
  | k, m :: l => descD k m :: descsD (k + 1) l
def enumD : List EnumDesc := [⟨⟨#[69]⟩, [⟨#[90]⟩], [0]⟩]
/-- The schema that an IR is raised to. -/
noncomputable def raiseD (mods : List Modu) : Schema := if irS mods = true then ⟨descsD 0 mods, enumD⟩ else ⟨[], []⟩
theorem descsD_drop : ∀ (l : List Modu) (k : Nat) (h : k < l.length), (descsD 0 l)[k]? = some (descD k l[k]) := by
  have key : ∀ (l : List Modu) (j k : Nat) (h : k < l.length), (descsD j l)[k]? = some (descD (j + k) l[k]) := by
    intro l
    induction l with
    | nil => intro j k h; exact absurd h (Nat.not_lt_zero _)
    | cons m l ih =>
      intro j k h
      rw [descsD]
      cases k with
      | zero => rfl
      | succ k => rw [List.getElem?_cons_succ, ih (j + 1) k (by simpa using h), show j + 1 + k = j + (k + 1) by omega]; rfl
  intro l k h
  rw [key l 0 k h, Nat.zero_add]
theorem descsD_len : ∀ (l : List Modu) (j : Nat), (descsD j l).length = l.length
  | [], _ => rfl
  | m :: l, j => by rw [descsD, List.length_cons, List.length_cons, descsD_len l]
theorem Desc.css_nil : Desc.css [] = [] := by rw [Desc.css]
theorem Desc.css_snoc (l : List Desc) (a : Desc) : Desc.css (l ++ [a]) = Desc.css l ++ [a.cells] := by
  induction l with
  | nil => rw [List.nil_append, Desc.css, Desc.css, Desc.cs_eq, Desc.css]; rfl
  | cons b l ih => rw [List.cons_append, Desc.css, Desc.css, ih]; rfl
theorem FieldDesc.css_snoc (l : List FieldDesc) (a : FieldDesc) : FieldDesc.css (l ++ [a]) = FieldDesc.css l ++ [a.cells] := by
  induction l with
  | nil => rw [List.nil_append, FieldDesc.css, FieldDesc.css, FieldDesc.cs_eq, FieldDesc.css]; rfl
  | cons b l ih => rw [List.cons_append, FieldDesc.css, FieldDesc.css, ih]; rfl
theorem strC_snoc (l : List ByteArray) (a : ByteArray) : strC (l ++ [a]) = strC l ++ [[.sc (.string a)]] := by unfold strC; rw [List.map_append]; rfl
theorem most_le : ∀ (l : List Opr) (m : Int), m ≤ 536870912 → (∀ o ∈ l, o.oneof ≤ 536870912) → l.foldl upO m ≤ 536870912
  | [], m, h, _ => h
  | a :: l, m, h, ha => by
    rw [List.foldl_cons]
    exact most_le l _ (by unfold upO; have := ha a (List.mem_cons_self ..); split <;> omega) (fun o ho => ha o (List.mem_cons_of_mem _ ho))
def oneC : V → Bool
  | .sc x => x.oneCell'
  | _ => false
theorem one_row {d own : Bool} {row : List V} (h : row.all oneC = true) : OneEs d own [row] := fun e he v hv => by
  obtain rfl := List.mem_singleton.1 he
  have := List.all_eq_true.1 h v hv
  cases v with
  | sc x => exact this
  | _ => cases this
def oneC2 : V → Bool
  | .sc x => x.oneCell'
  | .sl _ _ => true
  | .own _ _ _ => true
  | _ => false
theorem one_row2 {d : Bool} {row : List V} (h : row.all oneC2 = true) : OneEs d true [row] := fun e he v hv => by
  obtain rfl := List.mem_singleton.1 he
  have := List.all_eq_true.1 h v hv
  cases v with
  | sc x => exact this
  | sl n es => exact Or.inl rfl
  | own d n es => rfl
  | _ => cases this
end Ev
open Go Ev
open Go.Proofs
set_option maxRecDepth 100000
set_option maxHeartbeats 4000000
set_option linter.unusedVariables false
namespace Ev
theorem specRaise (mods : List Modu) (hs : Small mods) : Fn Tryz.prog [] 7 [.agg [.sh 3 (Modu.css mods)]] [] (ret [.agg (raiseD mods).ocells, .sc (.bool (irS mods))] []) := by
  have hl := Modu.css_len mods
  have H := specIrOk mods hs
  have hr : raiseD mods = if irS mods = true then ⟨descsD 0 mods, enumD⟩ else ⟨[], []⟩ := rfl
  have hn := fun h => nice_of (l := mods) h
  generalize irS mods = c at *
  generalize raiseD mods = R at *
  refine fn_of Tryz.func7 d7 ?_
  conv => whnf
  refine Fn.use (H) ?_
  conv => whnf
  first | refine ⟨trivial, ?_⟩ | refine ⟨⟨rfl, clr_of rfl⟩, ?_⟩
  conv => whnf
  refine ifP_of (fun h => ?_) (fun h => ?_)
  · have h : c = false := by simpa using h
    subst h
    have hr : R = ⟨[], []⟩ := hr
    subst hr
    conv => whnf
    exact ⟨rfl, rfl⟩
  have h : c = true := by simpa using h
  subst h
  rw [if_pos rfl] at hr
  obtain ⟨hm, hn⟩ := hn rfl
  conv => whnf
  refine loop_of (A := Nat × List Desc) (fun x => ⟨[(1, .ptr 0 [] 0 0), (2, .ptr 1 [] 0 0), (4, .ptr 2 [] 0 0), (5, .sc (.int .i64 (x.1 : Nat)))], [(0, some ⟨[[.sh 3 (Modu.css mods)]], true, 1, true⟩), (1, some ⟨[[.own true 3 [], .own true 3 []]], true, 2, true⟩), (2, some ⟨[[.own true 3 (Desc.css x.2), .own true 3 (EnumDesc.css enumD)]], true, 2, true⟩)], 3, 95, 0⟩) (fun x => mods.length - x.1) (fun x => (x.1 ≤ mods.length ∧ x.2.length ≤ x.1) ∧ x.2 ++ descsD x.1 (mods.drop x.1) = descsD 0 mods) (0, []) rfl ⟨⟨Nat.zero_le _, Nat.le_refl _⟩, rfl⟩ ?_
  intro ⟨k, ds⟩ ⟨⟨hk, hdl⟩, hout⟩ X ih
  dsimp only at hk hdl hout
  conv => whnf
  rw [hl]
  conv => whnf
  refine ifP_of (fun h2 => ?_) (fun h2 => ?_)
  rotate_left
  · have h2 : k = mods.length := by have := of_decide_eq_false h2; dsimp only at this; omega
    subst h2
    rw [List.drop_eq_nil_of_le (Nat.le_refl _), descsD, List.append_nil] at hout
    subst hout
    subst hr
    conv => whnf
    exact ⟨rfl, rfl⟩
  have h2 : k < mods.length := by have := of_decide_eq_true h2; dsimp only at this; omega
  have hw : IntKind.i64.wrap ((k : Int) + 1) = ((k + 1 : Nat) : Int) := by rw [wrap64 (by omega) (by omega)]; omega
  have hnm := hn _ (List.getElem_mem h2)
  have hg := Modu.css_get h2
  rw [List.drop_eq_getElem_cons h2, descsD] at hout
  generalize mods[k] = m at *
  have fin : ∀ d, d = descD k m → X ⟨[(1, .ptr 0 [] 0 0), (2, .ptr 1 [] 0 0), (4, .ptr 2 [] 0 0), (5, .sc (.int .i64 (k + 1 : Nat)))], [(0, some ⟨[[.sh 3 (Modu.css mods)]], true, 1, true⟩), (1, some ⟨[[.own true 3 [], .own true 3 []]], true, 2, true⟩), (2, some ⟨[[.own true 3 (Desc.css (ds ++ [d])), .own true 3 (EnumDesc.css enumD)]], true, 2, true⟩)], 3, 95, 0⟩ := fun d hd => ih (k + 1, ds ++ [d]) ⟨⟨by dsimp only; omega, by dsimp only; rw [List.length_append, List.length_singleton]; omega⟩, by dsimp only; rw [hd, List.append_assoc]; exact hout⟩ (by dsimp only; omega)
  rw [← hw] at fin
  clear ih hout hr
  obtain ⟨ops, jumps, cached⟩ := m
  obtain ⟨ho, hno⟩ := hnm
  dsimp only at ho hno
  have hlo := Opr.css_len ops
  have HD := specDec k (by omega)
  have hsz := decD_size 19 k (by omega)
  have HO := specOneofs ⟨ops, jumps, cached⟩ (by show ops.length ≤ _; omega)
  have hM0 := (mostO_le ops 0).1
  have hM1 : mostO ops ≤ 536870912 := most_le ops 0 (by omega) (fun o h => by have := (hno o h).oneof; omega)
  have hdd : descD k ⟨ops, jumps, cached⟩ = ⟨ltr 77 k, ops.map fieldD, oneofsD (mostO ops).toNat⟩ := rfl
  rw [hdd] at fin
  obtain ⟨M, hM⟩ : ∃ M : Nat, mostO ops = M := ⟨(mostO ops).toNat, by have : mostO ops = ops.foldl upO 0 := rfl; omega⟩
  have hO2 : (Modu.mk ops jumps cached).ops = ops := rfl
  rw [hO2, hM] at HO
  rw [hM, Int.toNat_natCast] at fin
  rw [hM] at hM1
  have hltr : ltr 77 k = ⟨#[77]⟩ ++ decD k := rfl
  have hc : (⟨#[77]⟩ : ByteArray).size + (decD k).size ≤ 9223372036854775807 := by have : (⟨#[77]⟩ : ByteArray).size = 1 := rfl; omega
  conv => whnf
  refine Fn.use (HD) ?_
  conv => whnf
  first | refine ⟨trivial, ?_⟩ | refine ⟨⟨rfl, clr_of rfl⟩, ?_⟩
  conv => whnf
  refine chkP_of ?hchk ?_
  case hchk => first | exact decide_eq_true (by omega) | (simp; done) | (simp; omega) | exact decide_eq_true hc
  conv => whnf
  rw [← hltr]
  generalize ltr 77 k = nm at *
  refine loop_of (A := Nat) (fun j => ⟨[(1, .ptr 0 [] 0 0), (2, .ptr 1 [] 0 0), (4, .ptr 2 [] 0 0), (5, .sc (.int .i64 k)), (6, .ptr 3 [] 0 0), (7, .sc (.int .i64 (j + 1 : Nat)))], [(0, some ⟨[[.sh 3 (Modu.css mods)]], true, 1, true⟩), (1, some ⟨[[.own true 3 [], .own true 3 []]], true, 2, true⟩), (2, some ⟨[[.own true 3 (Desc.css ds), .own true 3 (EnumDesc.css enumD)]], true, 2, true⟩), (3, some ⟨[[.sc (.string nm), .own true 6 (FieldDesc.css []), .own true 1 (strC (oneofsD j))]], true, 3, true⟩)], 4, 95, 0⟩) (fun j => M - j) (fun j => j ≤ M) 0 rfl (Nat.zero_le _) ?_
  intro j hj Y ih2
  conv => whnf
  refine optP_of (hg) ?_
  conv => whnf
  refine Fn.use (HO) ?_
  conv => whnf
  first | refine ⟨trivial, ?_⟩ | refine ⟨⟨rfl, clr_of rfl⟩, ?_⟩
  conv => whnf
  refine ifP_of (fun h3 => ?_) (fun h3 => ?_)
  · have h3 : j < M := by have := of_decide_eq_true h3; omega
    have hw3 : IntKind.i64.wrap (((j + 1 : Nat) : Int) + 1) = ((j + 1 + 1 : Nat) : Int) := by rw [wrap64 (by omega) (by omega)]; omega
    have HD2 := specDec (j + 1) (by omega)
    have hsz2 := decD_size 19 (j + 1) (by omega)
    have hl2 : ltr 111 (j + 1) = ⟨#[111]⟩ ++ decD (j + 1) := rfl
    have hc2 : (⟨#[111]⟩ : ByteArray).size + (decD (j + 1)).size ≤ 9223372036854775807 := by have : (⟨#[111]⟩ : ByteArray).size = 1 := rfl; omega
    have fin2 := ih2 (j + 1) (by omega) (by omega)
    have he : oneofsD (j + 1) = oneofsD j ++ [ltr 111 (j + 1)] := by unfold oneofsD; rw [List.range_succ, List.map_append]; rfl
    have hlen : (strC (oneofsD j)).length = j := by rw [strC_len]; unfold oneofsD; rw [List.length_map, List.length_range]
    rw [he, strC_snoc, ← hw3] at fin2
    generalize strC (oneofsD j) = es at *
    have hc3 : (es.length + 1) * 16 ≤ 140737488355328 := by omega
    clear ih2 he
    conv => whnf
    refine Fn.use (HD2) ?_
    conv => whnf
    first | refine ⟨trivial, ?_⟩ | refine ⟨⟨rfl, clr_of rfl⟩, ?_⟩
    conv => whnf
    refine chkP_of ?hchk ?_
    case hchk => first | exact decide_eq_true (by omega) | (simp; done) | (simp; omega) | exact decide_eq_true hc2
    conv => whnf
    rw [← hl2]
    refine ⟨one_row rfl, chkP_of (decide_eq_true hc3) ?_⟩
    conv => whnf
    exact fin2
  have h3 : j = M := by have := of_decide_eq_false h3; omega
  subst h3
  clear ih2 HO
  have hM2 := hM1
  conv => whnf
  refine loop_of (A := Nat × List FieldDesc) (fun x => ⟨[(1, .ptr 0 [] 0 0), (2, .ptr 1 [] 0 0), (4, .ptr 2 [] 0 0), (5, .sc (.int .i64 k)), (6, .ptr 3 [] 0 0), (8, .sc (.int .i64 (x.1 : Nat)))], [(0, some ⟨[[.sh 3 (Modu.css mods)]], true, 1, true⟩), (1, some ⟨[[.own true 3 [], .own true 3 []]], true, 2, true⟩), (2, some ⟨[[.own true 3 (Desc.css ds), .own true 3 (EnumDesc.css enumD)]], true, 2, true⟩), (3, some ⟨[[.sc (.string nm), .own true 6 (FieldDesc.css x.2), .own true 1 (strC (oneofsD j))]], true, 3, true⟩)], 4, 95, 0⟩) (fun x => ops.length - x.1) (fun x => (x.1 ≤ ops.length ∧ x.2.length ≤ x.1) ∧ x.2 ++ (ops.drop x.1).map fieldD = ops.map fieldD) (0, []) rfl ⟨⟨Nat.zero_le _, Nat.le_refl _⟩, rfl⟩ ?_
  intro ⟨i, fs⟩ ⟨⟨hi, hfl⟩, hf⟩ Z ih3
  dsimp only at hi hfl hf
  conv => whnf
  refine optP_of (hg) ?_
  conv => whnf
  rw [hlo]
  conv => whnf
  refine ifP_of (fun h4 => ?_) (fun h4 => ?_)
  rotate_left
  · have h4 : i = ops.length := by have := of_decide_eq_false h4; dsimp only at this; omega
    subst h4
    rw [List.drop_eq_nil_of_le (Nat.le_refl _)] at hf
    have hf : fs ++ [] = ops.map fieldD := hf
    rw [List.append_nil] at hf
    have fin := fin ⟨nm, fs, oneofsD j⟩ (by rw [hf])
    rw [Desc.css_snoc] at fin
    have hdl2 := Desc.css_len ds
    generalize Desc.css ds = dc at *
    have hc4 : (dc.length + 1) * 64 ≤ 140737488355328 := by omega
    clear ih3 hf
    conv => whnf
    refine ⟨one_row2 rfl, chkP_of (decide_eq_true hc4) ?_⟩
    conv => whnf
    exact fin
  clear fin
  have h4 : i < ops.length := by have := of_decide_eq_true h4; dsimp only at this; omega
  have hw4 : IntKind.i64.wrap ((i : Int) + 1) = ((i + 1 : Nat) : Int) := by rw [wrap64 (by omega) (by omega)]; omega
  have hgo := Opr.css_get h4
  have hno := hno _ (List.getElem_mem h4)
  rw [List.drop_eq_getElem_cons h4, List.map_cons] at hf
  generalize ops[i] = o at *
  have fin3 : ∀ d, d = fieldD o → Z _ := fun d hd => ih3 (i + 1, fs ++ [d]) ⟨⟨by dsimp only; omega, by dsimp only; rw [List.length_append, List.length_singleton]; omega⟩, by dsimp only; rw [hd, List.append_assoc]; exact hf⟩ (by dsimp only; omega)
  clear ih3
  obtain ⟨num, kind, ref, rep, oneof, tag, quick, run, inl⟩ := o
  obtain ⟨n1, n2, n3, n4, n5⟩ := hno
  dsimp only at n1
  obtain ⟨num, rfl⟩ := Int.eq_ofNat_of_zero_le n1.1
  have HD3 := specDec num (by omega)
  have hsz3 := decD_size 19 num (by omega)
  have hl3 : ltr 102 num = ⟨#[102]⟩ ++ decD num := rfl
  have hc5 : (⟨#[102]⟩ : ByteArray).size + (decD num).size ≤ 9223372036854775807 := by have : (⟨#[102]⟩ : ByteArray).size = 1 := rfl; omega
  have fin3 := fin3 ⟨ltr 102 num, num, kind, ref, rep, oneof⟩ rfl
  have hfl2 := FieldDesc.css_len fs
  dsimp only at fin3
  rw [FieldDesc.css_snoc, ← hw4] at fin3
  generalize FieldDesc.css fs = fc at *
  have hc6 : (fc.length + 1) * 56 ≤ 140737488355328 := by omega
  clear hf n1 n2 n3 n4 n5
  conv => whnf
  refine optP_of (hg) ?_
  conv => whnf
  refine optP_of (hgo) ?_
  conv => whnf
  refine Fn.use (HD3) ?_
  conv => whnf
  first | refine ⟨trivial, ?_⟩ | refine ⟨⟨rfl, clr_of rfl⟩, ?_⟩
  conv => whnf
  refine chkP_of ?hchk ?_
  case hchk => first | exact decide_eq_true (by omega) | (simp; done) | (simp; omega) | exact decide_eq_true hc5
  conv => whnf
  rw [← hl3]
  refine ⟨one_row rfl, chkP_of (decide_eq_true hc6) ?_⟩
  conv => whnf
  exact fin3
end Ev
open Go Ev Go.Proofs Go.Lib Go.RowKit
set_option maxRecDepth 100000
set_option maxHeartbeats 4000000
set_option linter.unusedVariables false
namespace Ev
/-- The cells of the table of powers, and that there are no more. -/
def powG : List (Addr × Option Value) := (List.range 21).map fun i => ((⟨0, i, none⟩ : Addr), (Lib.pow10Tab[i]?).map fun z => Value.int .u64 z)
theorem pow_of {w : World} (h : ∀ a v, (a, v) ∈ powG → w.cell? a = v) : Lib.TabIs Tryz.prog w "internal/strconv.uint64pow10" .u64 Lib.pow10Tab := by
  have h2 : ∀ i, i < 21 → w.cell? ⟨0, i, none⟩ = (Lib.pow10Tab[i]?).map fun z => Value.int .u64 z := fun i hi => h _ _ (List.mem_map.2 ⟨i, List.mem_range.2 hi, rfl⟩)
  unfold Lib.TabIs World.var?
  rw [show Tryz.prog.globalNamed "internal/strconv.uint64pow10" = some 0 by kernel_rfl, Option.bind_some]
  have hl : Lib.pow10Tab.length = 20 := by unfold Lib.pow10Tab; rw [List.length_map, List.length_range]
  have h0 := h2 0 (by omega)
  unfold World.cell? at h0 h2
  dsimp only at h0 h2
  cases e : w.heap[0]? with
  | none => rw [e] at h0; simp [Lib.pow10Tab] at h0
  | some o =>
    rw [e] at h0
    cases o with
    | cells cs t fr =>
      dsimp only
      have h3 : ∀ i, i < 21 → cs[i]? = (Lib.pow10Tab[i]?).map fun z => Value.int .u64 z := fun i hi => by
        have := h2 i hi
        rw [e] at this
        exact this
      congr 1
      apply Array.ext'
      refine List.ext_getElem? (fun i => ?_)
      show cs.toList[i]? = (List.map (fun z => Value.int IntKind.u64 z) pow10Tab)[i]?
      rw [List.getElem?_map, Array.getElem?_toList]
      by_cases hi : i < 21
      · exact h3 i hi
      · have h20 := h3 20 (by omega)
        rw [List.getElem?_eq_none (by omega), Option.map_none] at h20
        have hs : cs.size ≤ 20 := Array.getElem?_eq_none_iff.1 h20
        rw [Array.getElem?_eq_none (by omega), List.getElem?_eq_none (by omega)]; rfl
    | _ => simp [Lib.pow10Tab] at h0
/-- A function of whole values behind which all that stood stands. -/
theorem fn_below {P : Program} {G : List (Addr × Option Value)} {f : Nat} {xs : List Value} {x : Value} (h : ∀ w : World, (∀ a v, (a, v) ∈ G → w.cell? a = v) → Calls P f xs.toArray w fun e w' => e = .returned x ∧ Below w.heap.size w w') : Fn P G f (xs.map .sc) [] (ret [.sc x] []) := by
  refine ⟨fun w ok g pm ys hl hv hb hlow hok hgl => ?_⟩
  have e : ys = xs := by
    rw [List.length_map] at hl
    refine List.ext_getElem hl (fun k h1 h2 => ?_)
    exact (hv k (.sc xs[k]) ys[k] (by rw [List.getElem?_map, List.getElem?_eq_getElem h2]; rfl) (List.getElem?_eq_getElem h1)).sc_inv
  subst e
  refine (h w (fun a v hm => by obtain ⟨b, o, rfl, _, h1, _⟩ := hgl a v hm; exact h1)).mono fun e w' ⟨h1, h2⟩ => ⟨x, [.sc x], [], h1, ⟨rfl, rfl⟩, fun n0 _ => ⟨g, pm, ?_⟩⟩
  have hblk : ∀ b, b < w.heap.size → w'.heap[b]? = w.heap[b]? := h2.block
  exact {
    keep := ⟨h2.os, h2.tape, h2.output, h2.size, fun b hb _ => hblk b hb, fun b o hb _ => by
      constructor
      · unfold World.cell?; dsimp only; rw [hblk b hb]
      · unfold World.frozen?; dsimp only; rw [hblk b hb]⟩
    len := rfl
    top := fun k o o' h => by simp at h
    own := fun b o hb => ⟨.inl hb, Nat.lt_of_lt_of_le (hlow b o hb) h2.size⟩
    blk := fun r p es d n hh => by
      have : (stO ((open3 n0 [V.sc x]).2.1 ++ obsO 0 [])).at r p = none := rfl
      rw [this] at hh; cases hh
    val := .sc x
    rng := fun r hr => absurd rfl hr
    le := Nat.le_refl _ }
theorem implItoa {G : List (Addr × Option Value)} (hG : ∀ x, x ∈ powG → x ∈ G) (n : Nat) (hn : n < 9223372036854775808) : Fn Tryz.prog G 35 [.sc (.int .i64 n)] [] (ret [.sc (.string (decD n))] []) := by
  have e : (⟨(Lib.itoa (n : Int)).toArray⟩ : ByteArray) = decD n := by
    unfold Lib.itoa decD
    rw [if_neg (by omega), Int.toNat_natCast]
  rw [← e]
  refine fn_below (xs := [.int .i64 n]) fun w h => ?_
  refine (Tryz.strconv_Itoa (n : Int) (by omega) (by omega) w (pow_of fun a v hm => h a v (hG _ hm))).mono ?_
  rintro e w' ⟨rfl, k, os, rfl⟩
  exact ⟨rfl, below_grow _ _ (Nat.le_refl _) _ _⟩
end Ev
open Go Ev
open Go.Proofs
set_option maxRecDepth 100000
set_option maxHeartbeats 4000000
set_option linter.unusedVariables false
namespace Ev
theorem implRaise {G : List (Addr × Option Value)} (hG : ∀ x, x ∈ powG → x ∈ G) (mods : List Modu) (hs : Small mods) : Fn Tryz.prog G 9 [.agg [.sh 3 (Modu.css mods)]] [] (ret [.agg (raiseD mods).ocells, .sc (.bool (irS mods))] []) := by
  have hl := Modu.css_len mods
  have H := implIrOk mods hs
  rw [← ir_iff] at H
  have H := H.wk (G := G)
  have hr : raiseD mods = if irS mods = true then ⟨descsD 0 mods, enumD⟩ else ⟨[], []⟩ := rfl
  have hn := fun h => nice_of (l := mods) h
  generalize irS mods = c at *
  generalize raiseD mods = R at *
  refine fn_ofG Tryz.func9 d9 ?_
  conv => whnf
  refine Fn.use (H) ?_
  conv => whnf
  first | refine ⟨trivial, ?_⟩ | refine ⟨⟨rfl, clr_of rfl⟩, ?_⟩
  conv => whnf
  refine ifP_of (fun h => ?_) (fun h => ?_)
  · have h : c = false := by simpa using h
    subst h
    have hr : R = ⟨[], []⟩ := hr
    subst hr
    conv => whnf
    exact ⟨rfl, rfl⟩
  have h : c = true := by simpa using h
  subst h
  rw [if_pos rfl] at hr
  obtain ⟨hm, hn⟩ := hn rfl
  conv => whnf
  rw [hl]
  refine loop_of (A := Nat × List Desc) (fun x => ⟨[(2, .ptr 0 [] 0 0), (4, .ptr 1 [] 0 0), (22, .sh 3 (Modu.css mods)), (23, .sc (.int .i64 mods.length)), (24, .sc (.int .i64 (x.1 : Nat)))], [(0, some ⟨[[.own true 3 [], .own true 3 []]], true, 2, true⟩), (1, some ⟨[[.own true 3 (Desc.css x.2), .own true 3 (EnumDesc.css enumD)]], true, 2, true⟩)], 2, 86, 0⟩) (fun x => mods.length - x.1) (fun x => (x.1 ≤ mods.length ∧ x.2.length ≤ x.1) ∧ x.2 ++ descsD x.1 (mods.drop x.1) = descsD 0 mods) (0, []) rfl ⟨⟨Nat.zero_le _, Nat.le_refl _⟩, rfl⟩ ?_
  intro ⟨k, ds⟩ ⟨⟨hk, hdl⟩, hout⟩ X ih
  dsimp only at hk hdl hout
  conv => whnf
  refine ifP_of (fun h2 => ?_) (fun h2 => ?_)
  rotate_left
  · have h2 : k = mods.length := by have := of_decide_eq_false h2; dsimp only at this; omega
    subst h2
    rw [List.drop_eq_nil_of_le (Nat.le_refl _), descsD, List.append_nil] at hout
    subst hout
    subst hr
    conv => whnf
    exact ⟨rfl, rfl⟩
  have h2 : k < mods.length := by have := of_decide_eq_true h2; dsimp only at this; omega
  have hw : IntKind.i64.wrap ((k : Int) + 1) = ((k + 1 : Nat) : Int) := by rw [wrap64 (by omega) (by omega)]; omega
  have hnm := hn _ (List.getElem_mem h2)
  have hg := Modu.css_get h2
  rw [List.drop_eq_getElem_cons h2, descsD] at hout
  generalize mods[k] = m at *
  have fin : ∀ d, d = descD k m → X ⟨[(2, .ptr 0 [] 0 0), (4, .ptr 1 [] 0 0), (22, .sh 3 (Modu.css mods)), (23, .sc (.int .i64 mods.length)), (24, .sc (.int .i64 (k + 1 : Nat)))], [(0, some ⟨[[.own true 3 [], .own true 3 []]], true, 2, true⟩), (1, some ⟨[[.own true 3 (Desc.css (ds ++ [d])), .own true 3 (EnumDesc.css enumD)]], true, 2, true⟩)], 2, 86, 0⟩ := fun d hd => ih (k + 1, ds ++ [d]) ⟨⟨by dsimp only; omega, by dsimp only; rw [List.length_append, List.length_singleton]; omega⟩, by dsimp only; rw [hd, List.append_assoc]; exact hout⟩ (by dsimp only; omega)
  rw [← hw] at fin
  clear ih hout hr
  obtain ⟨ops, jumps, cached⟩ := m
  obtain ⟨ho, hno⟩ := hnm
  dsimp only at ho hno
  have hlo := Opr.css_len ops
  have HD := implItoa hG k (by omega)
  have hsz := decD_size 19 k (by omega)
  have hM0 := (mostO_le ops 0).1
  have hM1 : mostO ops ≤ 536870912 := most_le ops 0 (by omega) (fun o h => by have := (hno o h).oneof; omega)
  have hdd : descD k ⟨ops, jumps, cached⟩ = ⟨ltr 77 k, ops.map fieldD, oneofsD (mostO ops).toNat⟩ := rfl
  rw [hdd] at fin
  obtain ⟨M, hM⟩ : ∃ M : Nat, mostO ops = M := ⟨(mostO ops).toNat, by have : mostO ops = ops.foldl upO 0 := rfl; omega⟩
  rw [hM, Int.toNat_natCast] at fin
  rw [hM] at hM1
  have hM3 : ops.foldl upO 0 = (M : Int) := hM
  have hltr : ltr 77 k = ⟨#[77]⟩ ++ decD k := rfl
  have hc : (⟨#[77]⟩ : ByteArray).size + (decD k).size ≤ 9223372036854775807 := by have : (⟨#[77]⟩ : ByteArray).size = 1 := rfl; omega
  conv => whnf
  refine optP_of (hg) ?_
  conv => whnf
  refine Fn.use (HD) ?_
  conv => whnf
  first | refine ⟨trivial, ?_⟩ | refine ⟨⟨rfl, clr_of rfl⟩, ?_⟩
  conv => whnf
  refine chkP_of ?hchk ?_
  case hchk => first | exact decide_eq_true (by omega) | (simp; done) | (simp; omega) | exact decide_eq_true hc
  conv => whnf
  rw [← hltr]
  generalize ltr 77 k = nm at *
  rw [hlo]
  refine loop_of (A := Nat × List FieldDesc × Int) (fun x => ⟨[(2, .ptr 0 [] 0 0), (4, .ptr 1 [] 0 0), (7, .ptr 2 [] 0 0), (8, .sc (.int .i64 x.2.2)), (22, .sh 3 (Modu.css mods)), (23, .sc (.int .i64 mods.length)), (24, .sc (.int .i64 k)), (34, .sh 9 (Opr.css ops)), (35, .sc (.int .i64 ops.length)), (36, .sc (.int .i64 (x.1 : Nat)))], [(0, some ⟨[[.own true 3 [], .own true 3 []]], true, 2, true⟩), (1, some ⟨[[.own true 3 (Desc.css ds), .own true 3 (EnumDesc.css enumD)]], true, 2, true⟩), (2, some ⟨[[.sc (.string nm), .own true 6 (FieldDesc.css x.2.1), .own true 1 (strC [])]], true, 3, true⟩)], 3, 86, 0⟩) (fun x => ops.length - x.1) (fun x => (x.1 ≤ ops.length ∧ x.2.1.length ≤ x.1) ∧ x.2.1 ++ (ops.drop x.1).map fieldD = ops.map fieldD ∧ (ops.drop x.1).foldl upO x.2.2 = (M : Int)) (0, [], 0) rfl ⟨⟨Nat.zero_le _, Nat.le_refl _⟩, rfl, hM3⟩ ?_
  intro ⟨i, fs, mx⟩ ⟨⟨hi, hfl⟩, hf, hmx⟩ Z ih3
  dsimp only at hi hfl hf hmx
  conv => whnf
  refine ifP_of (fun h4 => ?_) (fun h4 => ?_)
  · clear fin
    have h4 : i < ops.length := by have := of_decide_eq_true h4; dsimp only at this; omega
    have hw4 : IntKind.i64.wrap ((i : Int) + 1) = ((i + 1 : Nat) : Int) := by rw [wrap64 (by omega) (by omega)]; omega
    have hgo := Opr.css_get h4
    have hno := hno _ (List.getElem_mem h4)
    rw [List.drop_eq_getElem_cons h4, List.map_cons] at hf
    rw [List.drop_eq_getElem_cons h4, List.foldl_cons] at hmx
    generalize ops[i] = o at *
    have fin3 : ∀ d, d = fieldD o → Z _ := fun d hd => ih3 (i + 1, fs ++ [d], upO mx o) ⟨⟨by dsimp only; omega, by dsimp only; rw [List.length_append, List.length_singleton]; omega⟩, by dsimp only; rw [hd, List.append_assoc]; exact hf, hmx⟩ (by dsimp only; omega)
    clear ih3
    rw [← max_up] at fin3
    obtain ⟨num, kind, ref, rep, oneof, tag, quick, run, inl⟩ := o
    obtain ⟨n1, n2, n3, n4, n5⟩ := hno
    dsimp only at n1
    obtain ⟨num, rfl⟩ := Int.eq_ofNat_of_zero_le n1.1
    have HD3 := implItoa hG num (by omega)
    have hsz3 := decD_size 19 num (by omega)
    have hl3 : ltr 102 num = ⟨#[102]⟩ ++ decD num := rfl
    have hc5 : (⟨#[102]⟩ : ByteArray).size + (decD num).size ≤ 9223372036854775807 := by have : (⟨#[102]⟩ : ByteArray).size = 1 := rfl; omega
    have fin3 := fin3 ⟨ltr 102 num, num, kind, ref, rep, oneof⟩ rfl
    have hfl2 := FieldDesc.css_len fs
    dsimp only at fin3
    rw [FieldDesc.css_snoc, ← hw4] at fin3
    generalize FieldDesc.css fs = fc at *
    have hc6 : (fc.length + 1) * 56 ≤ 140737488355328 := by omega
    clear hf hmx n1 n2 n3 n4 n5
    conv => whnf
    refine optP_of (hgo) ?_
    conv => whnf
    refine Fn.use (HD3) ?_
    conv => whnf
    first | refine ⟨trivial, ?_⟩ | refine ⟨⟨rfl, clr_of rfl⟩, ?_⟩
    conv => whnf
    refine chkP_of ?hchk ?_
    case hchk => first | exact decide_eq_true (by omega) | (simp; done) | (simp; omega) | exact decide_eq_true hc5
    conv => whnf
    rw [← hl3]
    refine ⟨one_row rfl, chkP_of (decide_eq_true hc6) ?_⟩
    conv => whnf
    exact fin3
  have h4 : i = ops.length := by have := of_decide_eq_false h4; dsimp only at this; omega
  subst h4
  clear ih3
  rw [List.drop_eq_nil_of_le (Nat.le_refl _)] at hf hmx
  have hf : fs ++ [] = ops.map fieldD := hf
  rw [List.append_nil] at hf
  have hmx : mx = (M : Int) := hmx
  subst hmx
  have fin := fin ⟨nm, fs, oneofsD M⟩ (by rw [hf])
  rw [Desc.css_snoc] at fin
  have hdl2 := Desc.css_len ds
  clear hf
  conv => whnf
  refine loop_of (A := Nat) (fun j => ⟨[(2, .ptr 0 [] 0 0), (4, .ptr 1 [] 0 0), (7, .ptr 2 [] 0 0), (8, .sc (.int .i64 M)), (11, .sc (.int .i64 (j + 1 : Nat))), (22, .sh 3 (Modu.css mods)), (23, .sc (.int .i64 mods.length)), (24, .sc (.int .i64 k))], [(0, some ⟨[[.own true 3 [], .own true 3 []]], true, 2, true⟩), (1, some ⟨[[.own true 3 (Desc.css ds), .own true 3 (EnumDesc.css enumD)]], true, 2, true⟩), (2, some ⟨[[.sc (.string nm), .own true 6 (FieldDesc.css fs), .own true 1 (strC (oneofsD j))]], true, 3, true⟩)], 3, 86, 0⟩) (fun j => M - j) (fun j => j ≤ M) 0 rfl (Nat.zero_le _) ?_
  intro j hj Y ih2
  conv => whnf
  refine ifP_of (fun h3 => ?_) (fun h3 => ?_)
  · have h3 : j < M := by have := of_decide_eq_true h3; omega
    have hw3 : IntKind.i64.wrap (((j + 1 : Nat) : Int) + 1) = ((j + 1 + 1 : Nat) : Int) := by rw [wrap64 (by omega) (by omega)]; omega
    have HD2 := implItoa hG (j + 1) (by omega)
    have hsz2 := decD_size 19 (j + 1) (by omega)
    have hl2 : ltr 111 (j + 1) = ⟨#[111]⟩ ++ decD (j + 1) := rfl
    have hc2 : (⟨#[111]⟩ : ByteArray).size + (decD (j + 1)).size ≤ 9223372036854775807 := by have : (⟨#[111]⟩ : ByteArray).size = 1 := rfl; omega
    have fin2 := ih2 (j + 1) (by omega) (by omega)
    have he : oneofsD (j + 1) = oneofsD j ++ [ltr 111 (j + 1)] := by unfold oneofsD; rw [List.range_succ, List.map_append]; rfl
    have hlen : (strC (oneofsD j)).length = j := by rw [strC_len]; unfold oneofsD; rw [List.length_map, List.length_range]
    rw [he, strC_snoc, ← hw3] at fin2
    generalize strC (oneofsD j) = es at *
    have hc3 : (es.length + 1) * 16 ≤ 140737488355328 := by omega
    clear ih2 he
    conv => whnf
    refine Fn.use (HD2) ?_
    conv => whnf
    first | refine ⟨trivial, ?_⟩ | refine ⟨⟨rfl, clr_of rfl⟩, ?_⟩
    conv => whnf
    refine chkP_of ?hchk ?_
    case hchk => first | exact decide_eq_true (by omega) | (simp; done) | (simp; omega) | exact decide_eq_true hc2
    conv => whnf
    rw [← hl2]
    refine ⟨one_row rfl, chkP_of (decide_eq_true hc3) ?_⟩
    conv => whnf
    exact fin2
  have h3 : j = M := by have := of_decide_eq_false h3; omega
  subst h3
  clear ih2
  generalize Desc.css ds = dc at *
  have hc4 : (dc.length + 1) * 64 ≤ 140737488355328 := by omega
  conv => whnf
  refine ⟨one_row2 rfl, chkP_of (decide_eq_true hc4) ?_⟩
  conv => whnf
  exact fin
end Ev
open Go Ev
open Go.Proofs
set_option maxRecDepth 100000
set_option maxHeartbeats 4000000
set_option linter.unusedVariables false
namespace Ev
def ClA (es : List (List V)) : Prop := ∀ e ∈ es, ∀ v ∈ e, Cl true v
theorem clA_own {d : Bool} {n : Nat} {es : List (List V)} (h : ClA es) : Cl d (.own true n es) := .own _ _ _ _ fun i j e v he hv => h e (List.mem_of_getElem? he) v (List.mem_of_getElem? hv)
theorem clA_sl {n : Nat} {es : List (List V)} (h : ClA es) : Cl true (.sl n es) := .sl _ _ fun i j e v he hv => h e (List.mem_of_getElem? he) v (List.mem_of_getElem? hv)
theorem strC_cl (l : List ByteArray) : ClA (strC l) := fun e he v hv => by
  unfold strC at he
  obtain ⟨b, _, rfl⟩ := List.mem_map.1 he
  obtain rfl := List.mem_singleton.1 hv
  exact .sc _ _
theorem intC_cl (l : List Int) : ClA (intC l) := fun e he v hv => by
  unfold intC at he
  obtain ⟨b, _, rfl⟩ := List.mem_map.1 he
  obtain rfl := List.mem_singleton.1 hv
  exact .sc _ _
theorem clA_cons {e : List V} {l : List (List V)} (h : ∀ v ∈ e, Cl true v) (h2 : ClA l) : ClA (e :: l) := fun x hx => by
  rcases List.mem_cons.1 hx with rfl | hx
  · exact h
  · exact h2 x hx
theorem FieldDesc.cl : ∀ l : List FieldDesc, ClA (FieldDesc.css l)
  | [] => fun e he => by rw [FieldDesc.css] at he; cases he
  | a :: l => by
    rw [FieldDesc.css, FieldDesc.cs_eq]
    refine clA_cons (fun v hv => ?_) (FieldDesc.cl l)
    unfold FieldDesc.cells at hv
    simp only [List.mem_cons, List.not_mem_nil, or_false] at hv
    rcases hv with rfl | rfl | rfl | rfl | rfl | rfl <;> exact .sc _ _
theorem Desc.cl : ∀ l : List Desc, ClA (Desc.css l)
  | [] => fun e he => by rw [Desc.css] at he; cases he
  | a :: l => by
    rw [Desc.css, Desc.cs_eq]
    refine clA_cons (fun v hv => ?_) (Desc.cl l)
    unfold Desc.cells at hv
    simp only [List.mem_cons, List.not_mem_nil, or_false] at hv
    rcases hv with rfl | rfl | rfl
    · exact .sc _ _
    · exact clA_sl (FieldDesc.cl _)
    · exact clA_sl (strC_cl _)
theorem EnumDesc.cl : ∀ l : List EnumDesc, ClA (EnumDesc.css l)
  | [] => fun e he => by rw [EnumDesc.css] at he; cases he
  | a :: l => by
    rw [EnumDesc.css, EnumDesc.cs_eq]
    refine clA_cons (fun v hv => ?_) (EnumDesc.cl l)
    unfold EnumDesc.cells at hv
    simp only [List.mem_cons, List.not_mem_nil, or_false] at hv
    rcases hv with rfl | rfl | rfl
    · exact .sc _ _
    · exact clA_sl (strC_cl _)
    · exact clA_sl (intC_cl _)
theorem schema_clr (s : Schema) (x : Value) : ClR [.agg s.ocells, .sc x] := fun v hv => by
  simp only [List.mem_cons, List.not_mem_nil, or_false] at hv
  rcases hv with rfl | rfl
  · refine ⟨.agg _ _ fun k u hu => ?_, fun us e u hu => ?_⟩
    · have hu := List.mem_of_getElem? hu
      unfold Schema.ocells at hu
      simp only [List.mem_cons, List.not_mem_nil, or_false] at hu
      rcases hu with rfl | rfl
      · exact clA_own (Desc.cl _)
      · exact clA_own (EnumDesc.cl _)
    · cases e
      unfold Schema.ocells at hu
      simp only [List.mem_cons, List.not_mem_nil, or_false] at hu
      rcases hu with rfl | rfl <;> exact fun us e => by cases e
  · exact ⟨.sc _ _, fun us e => by cases e⟩
theorem forty {l : List Modu} (h : irS l = true) : ∀ m ∈ l, ∀ o ∈ m.ops, o.oneof ≤ 40 := by
  unfold irS at h
  rw [Bool.and_eq_true, Bool.and_eq_true] at h
  obtain ⟨h1, h2, h3⟩ := h
  rw [allAt_iff (l := l) (q := fun _ m => modS l m) (p := modAt l) (fun j => by unfold modAt; cases l[j]? <;> rfl)] at h3
  intro m hm o ho
  obtain ⟨j, hj, rfl⟩ := List.getElem_of_mem hm
  have h3 := h3 j hj
  generalize l[j] = m at *
  unfold modS at h3
  rw [Bool.and_eq_true] at h3
  have h3 := h3.1
  rw [allAt_iff (l := m.ops) (q := fun j o => opOkB l m.ops j o) (p := opAtB l m.ops) (fun j => by unfold opAtB; cases m.ops[j]? <;> rfl)] at h3
  obtain ⟨i, hi, rfl⟩ := List.getElem_of_mem ho
  have h3 := h3 i hi
  generalize m.ops[i] = o at *
  unfold opOkB shapeOk at h3
  simp only [Bool.and_eq_true, inB_iff] at h3
  omega
theorem most_le2 : ∀ (l : List Opr) (m : Int), m ≤ 40 → (∀ o ∈ l, o.oneof ≤ 40) → l.foldl upO m ≤ 40
  | [], m, h, _ => h
  | a :: l, m, h, ha => by
    rw [List.foldl_cons]
    exact most_le2 l _ (by unfold upO; have := ha a (List.mem_cons_self ..); split <;> omega) (fun o ho => ha o (List.mem_cons_of_mem _ ho))
theorem ltr_size (c : UInt8) (n : Nat) (h : n < 100000000000000000000) : (ltr c n).size ≤ 21 := by
  have := decD_size 19 n (by omega)
  unfold ltr
  rw [ByteArray.size_append]
  have : (⟨#[c]⟩ : ByteArray).size = 1 := rfl
  omega
theorem fields_ws : ∀ l : List Opr, (∀ o ∈ l, NiceO o) → FieldDesc.ws (l.map fieldD) ≤ 22 * l.length
  | [], _ => Nat.le_refl _
  | a :: l, h => by
    have h1 := fields_ws l (fun o ho => h o (List.mem_cons_of_mem _ ho))
    have h2 := ltr_size 102 a.num.toNat (by have := (h a (List.mem_cons_self ..)).num; omega)
    unfold FieldDesc.ws at *
    rw [List.map_cons, FieldDesc.ss, List.length_cons, List.length_cons]
    have h3 : (fieldD a).w = (ltr 102 a.num.toNat).size := rfl
    omega
theorem fields_cns : ∀ l : List Opr, FieldDesc.cns (l.map fieldD) = 6 * l.length
  | [] => rfl
  | a :: l => by
    have h1 := fields_cns l
    rw [List.map_cons, FieldDesc.cns, List.length_cons]
    have h3 : (fieldD a).cn = 6 := rfl
    omega
theorem oneofs_w : ∀ n : Nat, n ≤ 40 → strW (oneofsD n) ≤ 22 * n := by
  have key : ∀ l : List Nat, (∀ i ∈ l, i < 40) → strW (l.map fun i => ltr 111 (i + 1)) ≤ 22 * l.length := by
    intro l
    induction l with
    | nil => intro _; exact Nat.le_refl _
    | cons a l ih =>
      intro h
      have h1 := ih (fun i hi => h i (List.mem_cons_of_mem _ hi))
      have h2 := ltr_size 111 (a + 1) (by have := h a (List.mem_cons_self ..); omega)
      unfold strW at *
      rw [List.map_cons, strS, List.length_cons, List.length_cons]
      omega
  intro n hn
  have := key (List.range n) (fun i hi => by have := List.mem_range.1 hi; omega)
  rw [List.length_range] at this
  exact this
theorem descs_small : ∀ (l : List Modu) (k : Nat), k + l.length ≤ 1000 → (∀ m ∈ l, NiceM m) → (∀ m ∈ l, ∀ o ∈ m.ops, o.oneof ≤ 40) → Desc.ws (descsD k l) ≤ 1800 * l.length ∧ Desc.cns (descsD k l) ≤ 300 * l.length
  | [], _, _, _, _ => ⟨Nat.le_refl _, Nat.le_refl _⟩
  | m :: l, k, hk, hn, ho => by
    rw [List.length_cons] at hk
    obtain ⟨h1, h2⟩ := descs_small l (k + 1) (by omega) (fun x hx => hn x (List.mem_cons_of_mem _ hx)) (fun x hx => ho x (List.mem_cons_of_mem _ hx))
    have hm := hn m (List.mem_cons_self ..)
    have ho := ho m (List.mem_cons_self ..)
    have hml := hm.len
    have hM := most_le2 m.ops 0 (by omega) ho
    have hM : mostO m.ops ≤ 40 := hM
    have w1 := fields_ws m.ops hm.all
    have w2 := oneofs_w (mostO m.ops).toNat (by omega)
    have w3 := ltr_size 77 k (by omega)
    have c1 := fields_cns m.ops
    have c2 : (oneofsD (mostO m.ops).toNat).length = (mostO m.ops).toNat := by unfold oneofsD; rw [List.length_map, List.length_range]
    unfold Desc.ws at *
    rw [descsD, Desc.ss, Desc.cns, List.length_cons, List.length_cons]
    have e1 : (descD k m).w = (ltr 77 k).size + FieldDesc.ws (m.ops.map fieldD) + strW (oneofsD (mostO m.ops).toNat) := rfl
    have e2 : (descD k m).cn = 1 + FieldDesc.cns (m.ops.map fieldD) + (oneofsD (mostO m.ops).toNat).length := rfl
    omega
theorem raise_small (mods : List Modu) : (raiseD mods).w ≤ 100000 ∧ Desc.cns (raiseD mods).descs + EnumDesc.cns (raiseD mods).enums ≤ 100000 := by
  by_cases h : irS mods = true
  · obtain ⟨h1, h2⟩ := nice_of h
    obtain ⟨h3, h4⟩ := descs_small mods 0 (by omega) h2 (forty h)
    have e : raiseD mods = ⟨descsD 0 mods, enumD⟩ := by unfold raiseD; rw [if_pos h]
    rw [e]
    have e1 : EnumDesc.ws enumD = 5 := rfl
    have e2 : EnumDesc.cns enumD = 3 := rfl
    have e3 : Schema.w ⟨descsD 0 mods, enumD⟩ = Desc.ws (descsD 0 mods) + EnumDesc.ws enumD := rfl
    dsimp only
    omega
  · have e : raiseD mods = ⟨[], []⟩ := by unfold raiseD; rw [if_neg h]
    rw [e]; exact ⟨by decide, by decide⟩
end Ev
open Go Ev
open Go.Proofs
set_option maxRecDepth 100000
set_option maxHeartbeats 4000000
set_option linter.unusedVariables false
namespace Ev
theorem Opr.cns_w : ∀ (n : Nat) (l : List Opr), sizeOf l < n → Opr.cns l ≤ 8 * Opr.ws l
  | 0, l, h => absurd h (Nat.not_lt_zero _)
  | n + 1, [], _ => by rw [Opr.cns]; exact Nat.zero_le _
  | n + 1, ⟨num, kind, ref, rep, oneof, tag, quick, run, inl⟩ :: l, h => by
    have s := List.cons.sizeOf_spec (Opr.mk num kind ref rep oneof tag quick run inl) l
    have s2 := Opr.mk.sizeOf_spec num kind ref rep oneof tag quick run inl
    have h1 := Opr.cns_w n l (by omega)
    have h2 := Opr.cns_w n inl (by omega)
    unfold Opr.ws at *
    rw [Opr.cns, Opr.cn, Opr.ss, Opr.w, List.length_cons]
    omega
theorem Modu.cns_w : ∀ (l : List Modu), Modu.cns l ≤ 8 * Modu.ws l
  | [] => by rw [Modu.cns]; exact Nat.zero_le _
  | ⟨ops, jumps, cached⟩ :: l => by
    have h1 := Modu.cns_w l
    have h2 := Opr.cns_w _ ops (Nat.lt_succ_self _)
    unfold Modu.ws at *
    rw [Modu.cns, Modu.cn, Modu.ss, Modu.w, List.length_cons]
    omega
theorem markIr_ok (l : List Modu) (k : Int) (h0 : 0 ≤ k) (h1 : k + ((Modu.cns l : Nat) : Int) ≤ 4611686018427387904) : Fn Tryz.prog [] 12 [.agg [.hdr 0 [(0, 0)]], .sc (.int .i64 k)] [⟨[[.own true 3 (Modu.css l)]], true, 1, true⟩] (ret [.sc (.int .i64 (k + ((Modu.cns l : Nat) : Int)))] [⟨[[.own true 3 (Modu.css (Modu.mks l k))]], true, 1, true⟩]) := by
  have H1 := markModuS_ok l k h0 h1
  refine fn_of Tryz.func12 (by kernel_rfl) ?_
  conv => whnf
  refine Fn.use (H1) ?_
  conv => whnf
  first | refine ⟨trivial, ?_⟩ | refine ⟨⟨rfl, clr_of rfl⟩, ?_⟩
  conv => whnf
  exact ⟨rfl, rfl⟩
def Schema.mk' (s : Schema) (k : Int) : Schema := ⟨Desc.mks s.descs k, EnumDesc.mks s.enums (k + ((Desc.cns s.descs : Nat) : Int))⟩
def Schema.cn' (s : Schema) (k : Int) : Int := k + ((Desc.cns s.descs : Nat) : Int) + ((EnumDesc.cns s.enums : Nat) : Int)
theorem markSchema_ok (s : Schema) (k : Int) (h0 : 0 ≤ k) (h1 : Schema.cn' s k ≤ 4611686018427387904) : Fn Tryz.prog [] 13 [.agg [.hdr 0 [(0, 0)], .hdr 0 [(0, 1)]], .sc (.int .i64 k)] [⟨[s.ocells], true, 2, true⟩] (ret [.sc (.int .i64 (Schema.cn' s k))] [⟨[(Schema.mk' s k).ocells], true, 2, true⟩]) := by
  obtain ⟨ds, es⟩ := s
  unfold Schema.cn' at *
  unfold Schema.mk'
  dsimp only at *
  have H1 := markDescS_ok ds k h0 (by omega)
  have H2 := markEnumDescS_ok es (k + ((Desc.cns ds : Nat) : Int)) (by omega) (by omega)
  refine fn_of Tryz.func13 (by kernel_rfl) ?_
  conv => whnf
  refine Fn.use (H1) ?_
  conv => whnf
  first | refine ⟨trivial, ?_⟩ | refine ⟨⟨rfl, clr_of rfl⟩, ?_⟩
  conv => whnf
  refine Fn.use (H2) ?_
  conv => whnf
  first | refine ⟨trivial, ?_⟩ | refine ⟨⟨rfl, clr_of rfl⟩, ?_⟩
  conv => whnf
  exact ⟨rfl, rfl⟩
theorem heldSchema_ok (s : Schema) (k : Int) (h0 : 0 ≤ k) (h1 : Schema.cn' s k ≤ 4611686018427387904) : Fn Tryz.prog [] 14 [.agg (Schema.mk' s k).acells, .sc (.int .i64 k)] [] (ret [.sc (.int .i64 (Schema.cn' s k))] []) := by
  obtain ⟨ds, es⟩ := s
  unfold Schema.cn' at *
  unfold Schema.mk'
  dsimp only at *
  have H1 := heldDescS_ok ds k h0 (by omega)
  have H2 := heldEnumDescS_ok es (k + ((Desc.cns ds : Nat) : Int)) (by omega) (by omega)
  refine fn_of Tryz.func14 (by kernel_rfl) ?_
  conv => whnf
  refine Fn.use (H1) ?_
  conv => whnf
  first | refine ⟨trivial, ?_⟩ | refine ⟨⟨rfl, clr_of rfl⟩, ?_⟩
  conv => whnf
  refine ifP_no (decide_eq_false (by omega)) ?_
  conv => whnf
  refine Fn.use (H2) ?_
  conv => whnf
  first | refine ⟨trivial, ?_⟩ | refine ⟨⟨rfl, clr_of rfl⟩, ?_⟩
  conv => whnf
  refine ifP_no (decide_eq_false (by omega)) ?_
  conv => whnf
  exact ⟨rfl, rfl⟩
theorem lawRaise {G : List (Addr × Option Value)} (hG : ∀ x, x ∈ powG → x ∈ G) (x : Ir) (hx : x.ok) : Fn Tryz.prog G 3 [.agg x.acells] [] (ret [.sc (.bool true)] []) := by
  have HZ := (szIr_all x hx 1048576 (by omega) (by omega)).wk (G := G)
  have HT := fun h => (toIr_all x h).wk (G := G)
  have HE := fun h => (eqIr_all x h x).wk (G := G)
  have HS := fun h => (specRaise x.mods (small_of h)).wk (G := G)
  have HI := fun h => implRaise hG x.mods (small_of h)
  obtain ⟨mods⟩ := x
  dsimp only at HS HI
  obtain ⟨hsm, hcn⟩ := raise_small mods
  generalize irS mods = c at *
  generalize raiseD mods = S at *
  have HQ := (eqSchema_all S (by omega) S).wk (G := G)
  have hk : Schema.cn' S 1 = 1 + ((Desc.cns S.descs : Nat) : Int) + ((EnumDesc.cns S.enums : Nat) : Int) := rfl
  have HN := (markSchema_ok S 1 (by omega) (by omega)).wk (G := G)
  have HH := (heldSchema_ok S 1 (by omega) (by omega)).wk (G := G)
  have hpos : decide (Schema.cn' S 1 < 0) = false := decide_eq_false (by omega)
  have hcl := schema_clr S (.bool c)
  generalize Schema.cn' S 1 = K at *
  generalize Schema.mk' S 1 = g at *
  obtain ⟨ds, es⟩ := S
  obtain ⟨gd, ge⟩ := g
  clear hk hcn hsm
  refine fn_ofG Tryz.func3 (by kernel_rfl) ?_
  conv => whnf
  refine Fn.use (HZ) ?_
  conv => whnf
  first | refine ⟨trivial, ?_⟩ | refine ⟨⟨rfl, clr_of rfl⟩, ?_⟩
  conv => whnf
  generalize hd : dec 1048576 _ = d
  refine ifP_of (fun h => ?_) (fun h => ?_)
  · conv => whnf
    exact ⟨rfl, rfl⟩
  obtain ⟨h1, _⟩ := dec_ge hd (of_decide_eq_false h)
  have hw : Ir.w ⟨mods⟩ ≤ 1048576 := by omega
  have HT := HT hw
  have HE := HE hw
  have HS := HS hw
  have HI := HI hw
  have hcm : Modu.cns mods ≤ 8388608 := by
    have := Modu.cns_w mods
    have : Modu.ws mods ≤ 1048576 := hw
    omega
  rw [eqb_yes rfl] at HE HQ
  have HM := (markIr_ok mods 1 (by omega) (by omega)).wk (G := G)
  have hpos2 : decide (1 + ((Modu.cns mods : Nat) : Int) < 0) = false := decide_eq_false (by omega)
  generalize 1 + ((Modu.cns mods : Nat) : Int) = K2 at *
  clear hcm h hd h1
  conv => whnf
  refine Fn.use (HT) ?_
  conv => whnf
  first | refine ⟨trivial, ?_⟩ | refine ⟨⟨rfl, clr_of rfl⟩, ?_⟩
  conv => whnf
  refine Fn.use HS ⟨⟨rfl, hcl⟩, ?_⟩
  as_aux_lemma =>
    conv => whnf
    refine Fn.use (HT) ?_
    conv => whnf
    first | refine ⟨trivial, ?_⟩ | refine ⟨⟨rfl, clr_of rfl⟩, ?_⟩
    conv => whnf
    refine Fn.use HI ⟨⟨rfl, hcl⟩, ?_⟩
    as_aux_lemma =>
      conv => whnf
      refine Fn.use (HQ) ?_
      conv => whnf
      first | refine ⟨trivial, ?_⟩ | refine ⟨⟨rfl, clr_of rfl⟩, ?_⟩
      conv => whnf
      refine ifP_no (neB _) ?_
      conv => whnf
      refine Fn.use (HT) ?_
      conv => whnf
      first | refine ⟨trivial, ?_⟩ | refine ⟨⟨rfl, clr_of rfl⟩, ?_⟩
      conv => whnf
      refine Fn.use (HE) ?_
      conv => whnf
      first | refine ⟨trivial, ?_⟩ | refine ⟨⟨rfl, clr_of rfl⟩, ?_⟩
      conv => whnf
      refine Fn.use HM ⟨trivial, ?_⟩
      as_aux_lemma =>
        conv => whnf
        refine ifP_no hpos2 ?_
        conv => whnf
        refine Fn.use (HQ) ?_
        conv => whnf
        first | refine ⟨trivial, ?_⟩ | refine ⟨⟨rfl, clr_of rfl⟩, ?_⟩
        conv => whnf
        refine ifP_no (neB _) ?_
        conv => whnf
        refine Fn.use HN ⟨trivial, ?_⟩
        as_aux_lemma =>
          conv => whnf
          refine Fn.use HH ⟨⟨rfl, clr_of rfl⟩, ?_⟩
          as_aux_lemma =>
            conv => whnf
            refine ifP_no hpos ?_
            conv => whnf
            refine ifP_no (neI _) ?_
            conv => whnf
            refine Fn.use (HT) ?_
            conv => whnf
            first | refine ⟨trivial, ?_⟩ | refine ⟨⟨rfl, clr_of rfl⟩, ?_⟩
            conv => whnf
            refine Fn.use HI ⟨⟨rfl, hcl⟩, ?_⟩
            as_aux_lemma =>
              conv => whnf
              refine Fn.use (HQ) ?_
              conv => whnf
              first | refine ⟨trivial, ?_⟩ | refine ⟨⟨rfl, clr_of rfl⟩, ?_⟩
              conv => whnf
              refine ifP_no (neB _) ?_
              conv => whnf
              refine Fn.use HH ⟨⟨rfl, clr_of rfl⟩, ?_⟩
              as_aux_lemma =>
                conv => whnf
                refine ifP_no hpos ?_
                conv => whnf
                refine ifP_no (neI _) ?_
                conv => whnf
                exact ⟨rfl, rfl⟩
end Ev
