/- SameMsg: for each two messages the program's answer is the specification's, and both messages stay as they were. No condition. -/
import Derived.Test.YtnchbgiojdijbaaPFnExactSameMsgx4
import Derived.Test.YtnchbgiojdijbaaLib
import Derived.Test.YtnchbgiojdijbaaRFnExactSameMsg
import Derived.Test.YtnchbgiojdijbaaOp
set_option linter.unusedSimpArgs false
set_option linter.unusedVariables false
namespace Go.Proofs.Ytnchbgiojdijbaa.Pure
open Go Go.RowKit Go.Proofs.Ytnchbgiojdijbaa.PFnExactSameMsg Go.Proofs.YtnchbgiojdijbaaW.PrintWords Go.Proofs.YtnchbgiojdijbaaW.PrintLast Go.Proofs.YtnchbgiojdijbaaW.PrintMore Go.Proofs.Ytnchbgiojdijbaa.Lib Go.Proofs.Ytnchbgiojdijbaa.RFnExactSameMsg

theorem mx_len : maxLen = 9223372036854775807 := rfl
/-- What a size's walk through a list comes to, out of what it comes to at an element. -/
theorem sz_loop {α : Type} (L : Nat → List α → Int → Int → Option Int) (E : Nat → α → Int → Option Int) (rdf : List α → Int → α) (small : α → Prop)
    (hrd : ∀ (x : List α) (i : Nat) (h : i < x.length), rdf x (i : Int) = x[i])
    (step : ∀ k x left i, L (k + 1) x left i = if i < (x.length : Int) then (if 0 ≤ i then ((E k (rdf x i) left).bind fun t => (if t < 0 then some (-1) else L k x t (wrap64 (i + 1)))) else none) else some left)
    (x : List α) (hl : x.length ≤ maxLen) (he : ∀ e ∈ x, ∀ left : Int, 0 ≤ left → left ≤ 1048576 → ∃ (r : Int) (K : Nat), -1 ≤ r ∧ r ≤ left ∧ (0 ≤ r → small e) ∧ ∀ k, K ≤ k → E k e left = some r) :
    ∀ left : Int, 0 ≤ left → left ≤ 1048576 → ∃ (r : Int) (K : Nat), -1 ≤ r ∧ r ≤ left ∧ (0 ≤ r → ∀ e ∈ x, small e) ∧ ∀ k, K ≤ k → L k x left 0 = some r := by
  have hm := mx_len
  have aux : ∀ (d i : Nat) (left : Int), x.length - i = d → i ≤ x.length → 0 ≤ left → left ≤ 1048576 → ∃ (r : Int) (K : Nat), -1 ≤ r ∧ r ≤ left ∧ (0 ≤ r → ∀ j (h : j < x.length), i ≤ j → small x[j]) ∧ ∀ k, K ≤ k → L k x left (i : Int) = some r := by
    intro d
    induction d with
    | zero =>
      intro i left hd hi h0 h1
      refine ⟨left, 1, by omega, by omega, fun _ j h hj => by omega, fun k hk => ?_⟩
      obtain ⟨k, rfl⟩ : ∃ m, k = m + 1 := ⟨k - 1, by omega⟩
      rw [step, if_neg (by omega)]
    | succ d ih =>
      intro i left hd hi h0 h1
      have hil : i < x.length := by omega
      obtain ⟨r, K, r0, r1, r2, r3⟩ := he x[i] (List.getElem_mem hil) left h0 h1
      by_cases hz : r < 0
      · refine ⟨-1, K + 1, by omega, by omega, fun h => by omega, fun k hk => ?_⟩
        obtain ⟨k, rfl⟩ : ∃ m, k = m + 1 := ⟨k - 1, by omega⟩
        rw [step, if_pos (by omega), if_pos (by omega), hrd x i hil, r3 k (by omega), Option.bind_some, if_pos hz]
      · obtain ⟨q, M, q0, q1, q2, q3⟩ := ih (i + 1) r (by omega) (by omega) (by omega) (by omega)
        refine ⟨q, max K M + 1, q0, by omega, fun hq j h hj => ?_, fun k hk => ?_⟩
        · by_cases e : j = i
          · subst e; exact r2 (by omega)
          · exact q2 hq j h (by omega)
        · obtain ⟨k, rfl⟩ : ∃ m, k = m + 1 := ⟨k - 1, by omega⟩
          rw [step, if_pos (by omega), if_pos (by omega), hrd x i hil, r3 k (by omega), Option.bind_some, if_neg hz, w64 (by omega) (by omega), show (i : Int) + 1 = ((i + 1 : Nat) : Int) by omega]
          exact q3 k (by omega)
  intro left h0 h1
  obtain ⟨r, K, a, b, c, d⟩ := aux x.length 0 left (by omega) (by omega) h0 h1
  refine ⟨r, K, a, b, fun hr e hm => ?_, d⟩
  obtain ⟨j, hj, rfl⟩ := List.getElem_of_mem hm
  exact c hr j hj (by omega)
theorem sz_list {α : Type} (F : Nat → List α → Int → Option Int) (L : Nat → List α → Int → Int → Option Int) (small : α → Prop) (c : Nat)
    (stepF : ∀ k x left, F (k + 1) x left = if wrap64 (left - (x.length : Int)) < 0 then some (-1) else L (k + c) x (wrap64 (left - (x.length : Int))) 0)
    (x : List α) (hl : x.length ≤ maxLen) (hL : ∀ left : Int, 0 ≤ left → left ≤ 1048576 → ∃ (r : Int) (K : Nat), -1 ≤ r ∧ r ≤ left ∧ (0 ≤ r → ∀ e ∈ x, small e) ∧ ∀ k, K ≤ k → L k x left 0 = some r) :
    ∀ left : Int, 0 ≤ left → left ≤ 1048576 → ∃ (r : Int) (K : Nat), -1 ≤ r ∧ r ≤ left ∧ (0 ≤ r → x.length ≤ 1048576 ∧ ∀ e ∈ x, small e) ∧ ∀ k, K ≤ k → F k x left = some r := by
  have hm := mx_len
  intro left h0 h1
  by_cases hz : left - (x.length : Int) < 0
  · refine ⟨-1, 1, by omega, by omega, fun h => by omega, fun k hk => ?_⟩
    obtain ⟨k, rfl⟩ : ∃ m, k = m + 1 := ⟨k - 1, by omega⟩
    rw [stepF, w64 (by omega) (by omega), if_pos hz]
  · obtain ⟨r, K, a, b, cc, d⟩ := hL (left - (x.length : Int)) (by omega) (by omega)
    refine ⟨r, K + 1, a, by omega, fun hr => ⟨by omega, cc hr⟩, fun k hk => ?_⟩
    obtain ⟨k, rfl⟩ : ∃ m, k = m + 1 := ⟨k - 1, by omega⟩
    rw [stepF, w64 (by omega) (by omega), if_neg hz]
    exact d (k + c) (by omega)
/-- What a copy of a list comes to. -/
theorem to_loop {α β γ : Type} (T : Nat → List α → List β → Int → Option (List β)) (E : Nat → α → Option γ) (mk : γ → β) (rdf : List α → Int → α) (small : β → Prop)
    (hrd : ∀ (x : List α) (i : Nat) (h : i < x.length), rdf x (i : Int) = x[i])
    (step : ∀ k x y i, T (k + 1) x y i = if i < (x.length : Int) then (if 0 ≤ i then ((E k (rdf x i)).bind fun b => (if i < (y.length : Int) then T k x (y.set i.toNat (mk b)) (wrap64 (i + 1)) else none)) else none) else some y)
    (x : List α) (hl : x.length ≤ 1048576) (he : ∀ e ∈ x, ∃ (b : γ) (K : Nat), small (mk b) ∧ ∀ k, K ≤ k → E k e = some b) (y : List β) (hy : y.length = x.length) :
    ∃ (z : List β) (K : Nat), z.length = x.length ∧ (∀ e ∈ z, small e) ∧ ∀ k, K ≤ k → T k x y 0 = some z := by
  have aux : ∀ (d i : Nat) (y : List β), x.length - i = d → i ≤ x.length → y.length = x.length → (∀ j (h : j < y.length), j < i → small y[j]) → ∃ (z : List β) (K : Nat), z.length = x.length ∧ (∀ e ∈ z, small e) ∧ ∀ k, K ≤ k → T k x y (i : Int) = some z := by
    intro d
    induction d with
    | zero =>
      intro i y hd hi hy hs
      refine ⟨y, 1, hy, fun e hm => ?_, fun k hk => ?_⟩
      · obtain ⟨j, hj, rfl⟩ := List.getElem_of_mem hm
        exact hs j hj (by omega)
      · obtain ⟨k, rfl⟩ : ∃ m, k = m + 1 := ⟨k - 1, by omega⟩
        rw [step, if_neg (by omega)]
    | succ d ih =>
      intro i y hd hi hy hs
      have hil : i < x.length := by omega
      obtain ⟨b, K, b1, b2⟩ := he x[i] (List.getElem_mem hil)
      obtain ⟨z, M, z1, z2, z3⟩ := ih (i + 1) (y.set i (mk b)) (by omega) (by omega) (by rw [List.length_set]; exact hy) (fun j h hj => by
        rw [List.getElem_set]
        split
        · exact b1
        · exact hs j (by rw [List.length_set] at h; exact h) (by omega))
      refine ⟨z, max K M + 1, z1, z2, fun k hk => ?_⟩
      obtain ⟨k, rfl⟩ : ∃ m, k = m + 1 := ⟨k - 1, by omega⟩
      rw [step, if_pos (by omega), if_pos (by omega), hrd x i hil, b2 k (by omega), Option.bind_some, if_pos (by omega), w64 (by omega) (by omega), show (i : Int) + 1 = ((i + 1 : Nat) : Int) by omega, Int.toNat_natCast]
      exact z3 k (by omega)
  exact aux x.length 0 y (by omega) (by omega) hy (fun j h hj => by omega)
theorem to_list {α β : Type} (F : Nat → List α → Option (List β)) (T : Nat → List α → List β → Int → Option (List β)) (zero : β) (small : β → Prop) (c lim : Nat) (hlim : 1048576 ≤ lim)
    (stepF : ∀ k x, F (k + 1) x = if 0 ≤ (x.length : Int) then (if ((x.length : Int) : Int).toNat ≤ lim then T (k + c) x (List.replicate ((x.length : Int) : Int).toNat zero) 0 else none) else none)
    (x : List α) (hl : x.length ≤ 1048576) (hT : ∀ y : List β, y.length = x.length → ∃ (z : List β) (K : Nat), z.length = x.length ∧ (∀ e ∈ z, small e) ∧ ∀ k, K ≤ k → T k x y 0 = some z) :
    ∃ (z : List β) (K : Nat), z.length ≤ 1048576 ∧ (∀ e ∈ z, small e) ∧ ∀ k, K ≤ k → F k x = some z := by
  obtain ⟨z, K, z1, z2, z3⟩ := hT (List.replicate x.length zero) (by rw [List.length_replicate])
  refine ⟨z, K + 1, by omega, z2, fun k hk => ?_⟩
  obtain ⟨k, rfl⟩ : ∃ m, k = m + 1 := ⟨k - 1, by omega⟩
  rw [stepF, Int.toNat_natCast, if_pos (by omega), if_pos (by omega)]
  exact z3 (k + c) (by omega)
/-- A list is equal to itself. -/
theorem eq_loop {β : Type} (Q : Nat → List β → List β → Int → Option Bool) (E : Nat → β → β → Option Bool) (rdf : List β → Int → β)
    (hrd : ∀ (x : List β) (i : Nat) (h : i < x.length), rdf x (i : Int) = x[i])
    (step : ∀ k x y i, Q (k + 1) x y i = if i < (x.length : Int) then (if 0 ≤ i then (if i < (y.length : Int) then ((E k (rdf x i) (rdf y i)).bind fun t => (if t = true then Q k x y (wrap64 (i + 1)) else none)) else none) else none) else some true)
    (x : List β) (hl : x.length ≤ 1048576) (he : ∀ e ∈ x, ∃ K : Nat, ∀ k, K ≤ k → E k e e = some true) : ∃ K : Nat, ∀ k, K ≤ k → Q k x x 0 = some true := by
  have aux : ∀ (d i : Nat), x.length - i = d → i ≤ x.length → ∃ K : Nat, ∀ k, K ≤ k → Q k x x (i : Int) = some true := by
    intro d
    induction d with
    | zero =>
      intro i hd hi
      refine ⟨1, fun k hk => ?_⟩
      obtain ⟨k, rfl⟩ : ∃ m, k = m + 1 := ⟨k - 1, by omega⟩
      rw [step, if_neg (by omega)]
    | succ d ih =>
      intro i hd hi
      have hil : i < x.length := by omega
      obtain ⟨K, h1⟩ := he x[i] (List.getElem_mem hil)
      obtain ⟨M, h2⟩ := ih (i + 1) (by omega) (by omega)
      refine ⟨max K M + 1, fun k hk => ?_⟩
      obtain ⟨k, rfl⟩ : ∃ m, k = m + 1 := ⟨k - 1, by omega⟩
      rw [step, if_pos (by omega), if_pos (by omega), if_pos (by omega), hrd x i hil, h1 k (by omega), Option.bind_some, if_pos rfl, w64 (by omega) (by omega), show (i : Int) + 1 = ((i + 1 : Nat) : Int) by omega]
      exact h2 k (by omega)
  exact aux x.length 0 (by omega) (by omega)
theorem eq_list {β : Type} (F : Nat → List β → List β → Option Bool) (Q : Nat → List β → List β → Int → Option Bool) (c : Nat)
    (stepF : ∀ k x y, F (k + 1) x y = if (x.length : Int) = (y.length : Int) then Q (k + c) x y 0 else none)
    (x : List β) (hQ : ∃ K : Nat, ∀ k, K ≤ k → Q k x x 0 = some true) : ∃ K : Nat, ∀ k, K ≤ k → F k x x = some true := by
  obtain ⟨K, h⟩ := hQ
  refine ⟨K + 1, fun k hk => ?_⟩
  obtain ⟨k, rfl⟩ : ∃ m, k = m + 1 := ⟨k - 1, by omega⟩
  rw [stepF, if_pos rfl]
  exact h (k + c) (by omega)
theorem rdf_getD {α : Type} (z : α) (x : List α) (i : Nat) (h : i < x.length) : x.getD ((i : Int)).toNat z = x[i] := by
  rw [Int.toNat_natCast, List.getD_eq_getElem?_getD, List.getElem?_eq_getElem h]; rfl

/-- A size's step: it comes to an answer, of -1 or what is left, and what is not -1 says that the thing is small. -/
def SzC (F : Nat → Int → Option Int) (P : Prop) : Prop := ∀ left : Int, 0 ≤ left → left ≤ 1048576 → ∃ (r : Int) (K : Nat), -1 ≤ r ∧ r ≤ left ∧ (0 ≤ r → P) ∧ ∀ k, K ≤ k → F k left = some r
theorem SzC.done : SzC (fun _ left => some left) True := fun left h0 h1 => ⟨left, 0, by omega, by omega, fun _ => trivial, fun _ _ => rfl⟩
theorem SzC.str {F : Nat → Int → Option Int} {P : Prop} (n : Nat) (hn : n ≤ maxLen) (h : SzC F P) : SzC (fun k left => if wrap64 (left - (n : Int)) < 0 then some (-1) else F k (wrap64 (left - (n : Int)))) (n ≤ 1048576 ∧ P) := by
  have hm := mx_len
  intro left h0 h1
  by_cases hz : left - (n : Int) < 0
  · refine ⟨-1, 0, by omega, by omega, fun h => by omega, fun k hk => ?_⟩
    show (if wrap64 (left - (n : Int)) < 0 then _ else _) = _
    rw [w64 (by omega) (by omega), if_pos hz]
  · obtain ⟨r, K, a, b, c, d⟩ := h (left - (n : Int)) (by omega) (by omega)
    refine ⟨r, K, a, by omega, fun hr => ⟨by omega, c hr⟩, fun k hk => ?_⟩
    show (if wrap64 (left - (n : Int)) < 0 then _ else _) = _
    rw [w64 (by omega) (by omega), if_neg hz]
    exact d k hk
theorem SzC.bind {F G : Nat → Int → Option Int} {P Q : Prop} (hF : SzC F P) (hG : SzC G Q) : SzC (fun k left => (F k left).bind fun t => (if t < 0 then some (-1) else G k t)) (P ∧ Q) := by
  intro left h0 h1
  obtain ⟨r, K, a, b, c, d⟩ := hF left h0 h1
  by_cases hz : r < 0
  · refine ⟨-1, K, by omega, by omega, fun h => by omega, fun k hk => ?_⟩
    show (F k left).bind _ = _
    rw [d k hk, Option.bind_some, if_pos hz]
  · obtain ⟨q, M, a', b', c', d'⟩ := hG r (by omega) (by omega)
    refine ⟨q, max K M, a', by omega, fun hq => ⟨c (by omega), c' hq⟩, fun k hk => ?_⟩
    show (F k left).bind _ = _
    rw [d k (by omega), Option.bind_some, if_neg hz]
    exact d' k (by omega)
theorem SzC.succ {F G : Nat → Int → Option Int} {P : Prop} (h : SzC F P) (e : ∀ k left, G (k + 1) left = F k left) : SzC G P := by
  intro left h0 h1
  obtain ⟨r, K, a, b, c, d⟩ := h left h0 h1
  refine ⟨r, K + 1, a, b, c, fun k hk => ?_⟩
  obtain ⟨k, rfl⟩ : ∃ m, k = m + 1 := ⟨k - 1, by omega⟩
  rw [e]; exact d k (by omega)
theorem SzC.as {F G : Nat → Int → Option Int} {P Q : Prop} (h : SzC F P) (e : ∀ k left, G k left = F k left) (pq : P → Q) : SzC G Q := by
  intro left h0 h1
  obtain ⟨r, K, a, b, c, d⟩ := h left h0 h1
  exact ⟨r, K, a, b, fun hr => pq (c hr), fun k hk => by rw [e]; exact d k hk⟩
theorem SzC.list {α : Type} {F : Nat → List α → Int → Option Int} (L : Nat → List α → Int → Int → Option Int) (E : Nat → α → Int → Option Int) (rdf : List α → Int → α) (small : α → Prop) (c : Nat)
    (hrd : ∀ (x : List α) (i : Nat) (h : i < x.length), rdf x (i : Int) = x[i])
    (step : ∀ k x left i, L (k + 1) x left i = if i < (x.length : Int) then (if 0 ≤ i then ((E k (rdf x i) left).bind fun t => (if t < 0 then some (-1) else L k x t (wrap64 (i + 1)))) else none) else some left)
    (stepF : ∀ k x left, F (k + 1) x left = if wrap64 (left - (x.length : Int)) < 0 then some (-1) else L (k + c) x (wrap64 (left - (x.length : Int))) 0)
    (x : List α) (hl : x.length ≤ maxLen) (he : ∀ e ∈ x, SzC (fun k left => E k e left) (small e)) : SzC (fun k left => F k x left) (x.length ≤ 1048576 ∧ ∀ e ∈ x, small e) :=
  sz_list F L small c stepF x hl (sz_loop L E rdf small hrd step x hl he)

theorem szByteS_ok (x : List Int) (hl : x.length ≤ maxLen) : SzC (fun _ left => laws_szByteS.f x left) (x.length ≤ 1048576) := (SzC.done.str _ hl).as (fun _ _ => rfl) (fun p => p.1)
/-- A value whose message's lists, and so on within, are short. -/
inductive Small123 : S123 → Prop
  | mk (x : S123) (h1 : x.f2.f0.length ≤ 1048576) (h2 : ∀ it ∈ x.f2.f0, it.f1.length ≤ 1048576) (h3 : ∀ it ∈ x.f2.f0, ∀ y ∈ it.f1, Small123 y) (h4 : x.f2.f1.length ≤ 1048576) : Small123 x
def Sm115 (it : S115) : Prop := it.f1.length ≤ 1048576 ∧ ∀ y ∈ it.f1, Small123 y
theorem szValS_of (x : List S123) (hl : x.length ≤ maxLen) (he : ∀ e ∈ x, SzC (fun k left => laws_szVal.f k e.f0 e.f1 e.f2.f0 e.f2.f1 left) (Small123 e)) : SzC (fun k left => laws_szValS.f k x left) (x.length ≤ 1048576 ∧ ∀ e ∈ x, Small123 e) :=
  SzC.list (F := laws_szValS.f) laws_szValS.l0 (fun k e left => laws_szVal.f k e.f0 e.f1 e.f2.f0 e.f2.f1 left) rd_T123 Small123 0 (fun x i h => rdf_getD z123 x i h) (fun k x left i => by rw [laws_szValS.l0]) (fun k x left => by rw [laws_szValS.f]; rfl) x hl he
theorem szItem_of (it : S115) (hl : it.f1.length ≤ maxLen) (he : ∀ e ∈ it.f1, SzC (fun k left => laws_szVal.f k e.f0 e.f1 e.f2.f0 e.f2.f1 left) (Small123 e)) : SzC (fun k left => laws_szItem.f k it.f0 it.f1 left) (Sm115 it) :=
  (((szValS_of it.f1 hl he).bind SzC.done).as (fun _ _ => rfl) (fun p => p.1)).succ (fun k left => by rw [laws_szItem.f])
theorem szItemS_of (x : List S115) (hl : x.length ≤ maxLen) (h1 : ∀ it ∈ x, it.f1.length ≤ maxLen) (he : ∀ it ∈ x, ∀ e ∈ it.f1, SzC (fun k left => laws_szVal.f k e.f0 e.f1 e.f2.f0 e.f2.f1 left) (Small123 e)) : SzC (fun k left => laws_szItemS.f k x left) (x.length ≤ 1048576 ∧ ∀ e ∈ x, Sm115 e) :=
  SzC.list (F := laws_szItemS.f) laws_szItemS.l0 (fun k e left => laws_szItem.f k e.f0 e.f1 left) rd_T115 Sm115 0 (fun x i h => rdf_getD z115 x i h) (fun k x left i => by rw [laws_szItemS.l0]) (fun k x left => by rw [laws_szItemS.f]; rfl) x hl (fun it hi => szItem_of it (h1 it hi) (he it hi))
theorem szMsg_of (x : List S115) (u : List Int) (hl : x.length ≤ maxLen) (h1 : ∀ it ∈ x, it.f1.length ≤ maxLen) (hu : u.length ≤ maxLen) (he : ∀ it ∈ x, ∀ e ∈ it.f1, SzC (fun k left => laws_szVal.f k e.f0 e.f1 e.f2.f0 e.f2.f1 left) (Small123 e)) : SzC (fun k left => laws_szMsg.f k x u left) ((x.length ≤ 1048576 ∧ ∀ e ∈ x, Sm115 e) ∧ u.length ≤ 1048576) :=
  (((szItemS_of x hl h1 he).bind ((szByteS_ok u hu).bind SzC.done)).as (fun _ _ => rfl) (fun p => ⟨p.1, p.2.1⟩)).succ (fun k left => by rw [laws_szMsg.f])
theorem szVal_ok (e : S123) (h : Good123 e) : SzC (fun k left => laws_szVal.f k e.f0 e.f1 e.f2.f0 e.f2.f1 left) (Small123 e) := by
  induction h with
  | mk x h0 h1 h2 h3 h4 h5 h6 h7 ih =>
    exact (SzC.as (((szMsg_of x.f2.f0 x.f2.f1 h2 h4 h6 ih).bind SzC.done).str _ h1) (fun _ _ => rfl) (fun p => Small123.mk x p.2.1.1.1 (fun it hi => (p.2.1.1.2 it hi).1) (fun it hi => (p.2.1.1.2 it hi).2) p.2.1.2)).succ (fun k left => by rw [laws_szVal.f])
theorem szMsg_ok (x : List S115) (u : List Int) (hx : x.length ≤ maxLen ∧ ∀ e ∈ x, good115 e) (hu : u.length ≤ maxLen) : SzC (fun k left => laws_szMsg.f k x u left) ((x.length ≤ 1048576 ∧ ∀ e ∈ x, Sm115 e) ∧ u.length ≤ 1048576) :=
  szMsg_of x u hx.1 (fun it hi => (hx.2 it hi).2.1) hu (fun it hi e he => szVal_ok e ((hx.2 it hi).2.2 e he))

/-- What a run comes to once it has rounds enough. -/
def To {α : Type} (f : Nat → Option α) (r : α) : Prop := ∃ K : Nat, ∀ k, K ≤ k → f k = some r
theorem To.one {α : Type} {f : Nat → Option α} {a b : α} (h : To f a) (g : To f b) : a = b := by
  obtain ⟨K, h⟩ := h; obtain ⟨M, g⟩ := g
  exact Option.some.inj ((h (max K M) (by omega)).symm.trans (g (max K M) (by omega)))

theorem toByteS_ok (x : List Int) (hl : x.length ≤ 1048576) : ∃ (z : List Int) (K : Nat), z.length ≤ 1048576 ∧ (∀ e ∈ z, True) ∧ ∀ k, K ≤ k → laws_toByteS.f k x = some z :=
  to_list (F := laws_toByteS.f) laws_toByteS.l0 (0 : Int) (fun _ => True) 1 281474976710656 (by omega) (fun k x => rfl) x hl (fun y hy => to_loop (T := laws_toByteS.l0) (fun _ e => some e) (fun b => b) (fun x i => rd x i) (fun _ => True) (fun x i h => rdf_getD (0 : Int) x i h) (fun k x y i => rfl) x hl (fun e he => ⟨_, 0, trivial, fun _ _ => rfl⟩) y hy)
/-- A copied value whose lists are short. -/
inductive Small91 : S91 → Prop
  | mk (x : S91) (h1 : x.f2.f0.length ≤ 1048576) (h2 : ∀ it ∈ x.f2.f0, it.f1.length ≤ 1048576) (h3 : ∀ it ∈ x.f2.f0, ∀ y ∈ it.f1, Small91 y) (h4 : x.f2.f1.length ≤ 1048576) : Small91 x
def Sm89 (it : S89) : Prop := it.f1.length ≤ 1048576 ∧ ∀ y ∈ it.f1, Small91 y
def mk91 (b : Int × ByteArray × (List (S89)) × List Int) : S91 := ⟨b.1, b.2.1, (⟨b.2.2.1, b.2.2.2⟩ : S57)⟩
def mk89 (b : Int × (List (S91))) : S89 := ⟨b.1, b.2⟩
theorem toValS_of (x : List S123) (hl : x.length ≤ 1048576) (he : ∀ e ∈ x, ∃ b K, Small91 (mk91 b) ∧ ∀ k, K ≤ k → laws_toVal.f k e.f0 e.f1 e.f2.f0 e.f2.f1 = some b) : ∃ (z : List S91) (K : Nat), z.length ≤ 1048576 ∧ (∀ e ∈ z, Small91 e) ∧ ∀ k, K ≤ k → laws_toValS.f k x = some z :=
  to_list (F := laws_toValS.f) laws_toValS.l0 z91 Small91 0 3909374676536 (by omega) (fun k x => by rw [laws_toValS.f]; rfl) x hl (fun y hy => to_loop (T := laws_toValS.l0) (fun k e => laws_toVal.f k e.f0 e.f1 e.f2.f0 e.f2.f1) mk91 rd_T123 Small91 (fun x i h => rdf_getD z123 x i h) (fun k x y i => by rw [laws_toValS.l0]; rfl) x hl he y hy)
theorem toItemS_of (x : List S115) (hl : x.length ≤ 1048576) (h1 : ∀ it ∈ x, it.f1.length ≤ 1048576) (he : ∀ it ∈ x, ∀ e ∈ it.f1, ∃ b K, Small91 (mk91 b) ∧ ∀ k, K ≤ k → laws_toVal.f k e.f0 e.f1 e.f2.f0 e.f2.f1 = some b) : ∃ (z : List S89) (K : Nat), z.length ≤ 1048576 ∧ (∀ e ∈ z, Sm89 e) ∧ ∀ k, K ≤ k → laws_toItemS.f k x = some z :=
  to_list (F := laws_toItemS.f) laws_toItemS.l0 z89 Sm89 0 8796093022208 (by omega) (fun k x => by rw [laws_toItemS.f]; rfl) x hl (fun y hy => to_loop (T := laws_toItemS.l0) (fun k e => laws_toItem.f k e.f0 e.f1) mk89 rd_T115 Sm89 (fun x i h => rdf_getD z115 x i h) (fun k x y i => by rw [laws_toItemS.l0]; rfl) x hl (fun it hi => by
    obtain ⟨z, K, a, b, c⟩ := toValS_of it.f1 (h1 it hi) (he it hi)
    refine ⟨(it.f0, z), K + 1, ⟨a, b⟩, fun k hk => ?_⟩
    obtain ⟨k, rfl⟩ : ∃ m, k = m + 1 := ⟨k - 1, by omega⟩
    rw [laws_toItem.f, c k (by omega), Option.bind_some]) y hy)
theorem toMsg_of (x : List S115) (u : List Int) (hl : x.length ≤ 1048576) (h1 : ∀ it ∈ x, it.f1.length ≤ 1048576) (hu : u.length ≤ 1048576) (he : ∀ it ∈ x, ∀ e ∈ it.f1, ∃ b K, Small91 (mk91 b) ∧ ∀ k, K ≤ k → laws_toVal.f k e.f0 e.f1 e.f2.f0 e.f2.f1 = some b) : ∃ b K, (b.1.length ≤ 1048576 ∧ (∀ e ∈ b.1, Sm89 e) ∧ b.2.length ≤ 1048576) ∧ ∀ k, K ≤ k → laws_toMsg.f k x u = some b := by
  obtain ⟨z, K, a, b, c⟩ := toItemS_of x hl h1 he
  obtain ⟨y, M, d, _, f⟩ := toByteS_ok u hu
  refine ⟨(z, y), K + M + 1, ⟨a, b, d⟩, fun k hk => ?_⟩
  obtain ⟨k, rfl⟩ : ∃ m, k = m + 1 := ⟨k - 1, by omega⟩
  rw [laws_toMsg.f, c k (by omega), Option.bind_some, f k (by omega), Option.bind_some]
theorem toVal_ok (e : S123) (h : Small123 e) : ∃ b K, Small91 (mk91 b) ∧ ∀ k, K ≤ k → laws_toVal.f k e.f0 e.f1 e.f2.f0 e.f2.f1 = some b := by
  induction h with
  | mk x h1 h2 h3 h4 ih =>
    obtain ⟨b, K, ⟨p, q, r⟩, c⟩ := toMsg_of x.f2.f0 x.f2.f1 h1 h2 h4 ih
    refine ⟨(x.f0, x.f1, b.1, b.2), K + 1, Small91.mk _ p (fun it hi => (q it hi).1) (fun it hi => (q it hi).2) r, fun k hk => ?_⟩
    obtain ⟨k, rfl⟩ : ∃ m, k = m + 1 := ⟨k - 1, by omega⟩
    rw [laws_toVal.f, c k (by omega), Option.bind_some]
/-- A message's two lists are short. -/
def SmM (b : List S89 × List Int) : Prop := b.1.length ≤ 1048576 ∧ (∀ e ∈ b.1, Sm89 e) ∧ b.2.length ≤ 1048576
theorem toMsg_ok (x : List S115) (u : List Int) (h : (x.length ≤ 1048576 ∧ ∀ e ∈ x, Sm115 e) ∧ u.length ≤ 1048576) : ∃ b, SmM b ∧ To (fun k => laws_toMsg.f k x u) b := by
  obtain ⟨b, K, p, c⟩ := toMsg_of x u h.1.1 (fun it hi => (h.1.2 it hi).1) h.2 (fun it hi e he => toVal_ok e ((h.1.2 it hi).2 e he))
  exact ⟨b, p, K, c⟩
-- a message is equal to itself
theorem eqByteS_ok (x : List Int) (hl : x.length ≤ 1048576) : ∃ K : Nat, ∀ k, K ≤ k → laws_eqByteS.f k x x = some true :=
  eq_list laws_eqByteS.f laws_eqByteS.l0 1 (fun k x y => rfl) x (eq_loop laws_eqByteS.l0 (fun _ a b => if a = b then some true else none) (fun x i => rd x i) (fun x i h => rdf_getD (0 : Int) x i h) (fun k x y i => by
    rw [laws_eqByteS.l0]
    by_cases c : rd x i = rd y i
    · simp only [if_pos c, Option.bind_some, if_true]
    · simp only [if_neg c, Option.bind_none]) x hl (fun e he => ⟨0, fun _ _ => if_pos rfl⟩))
theorem eqValS_of (x : List S91) (hl : x.length ≤ 1048576) (he : ∀ e ∈ x, ∃ K : Nat, ∀ k, K ≤ k → laws_eqVal.f k e.f0 e.f1 e.f2.f0 e.f2.f1 e.f0 e.f1 e.f2.f0 e.f2.f1 = some true) : ∃ K : Nat, ∀ k, K ≤ k → laws_eqValS.f k x x = some true :=
  eq_list laws_eqValS.f laws_eqValS.l0 0 (fun k x y => by rw [laws_eqValS.f]; rfl) x (eq_loop laws_eqValS.l0 (fun k a b => laws_eqVal.f k a.f0 a.f1 a.f2.f0 a.f2.f1 b.f0 b.f1 b.f2.f0 b.f2.f1) rd_T91 (fun x i h => rdf_getD z91 x i h) (fun k x y i => by rw [laws_eqValS.l0]) x hl he)
theorem eqItemS_of (x : List S89) (hl : x.length ≤ 1048576) (h1 : ∀ it ∈ x, it.f1.length ≤ 1048576) (he : ∀ it ∈ x, ∀ e ∈ it.f1, ∃ K : Nat, ∀ k, K ≤ k → laws_eqVal.f k e.f0 e.f1 e.f2.f0 e.f2.f1 e.f0 e.f1 e.f2.f0 e.f2.f1 = some true) : ∃ K : Nat, ∀ k, K ≤ k → laws_eqItemS.f k x x = some true :=
  eq_list laws_eqItemS.f laws_eqItemS.l0 0 (fun k x y => by rw [laws_eqItemS.f]; rfl) x (eq_loop laws_eqItemS.l0 (fun k a b => laws_eqItem.f k a.f0 a.f1 b.f0 b.f1) rd_T89 (fun x i h => rdf_getD z89 x i h) (fun k x y i => by rw [laws_eqItemS.l0]) x hl (fun it hi => by
    obtain ⟨K, c⟩ := eqValS_of it.f1 (h1 it hi) (he it hi)
    refine ⟨K + 1, fun k hk => ?_⟩
    obtain ⟨k, rfl⟩ : ∃ m, k = m + 1 := ⟨k - 1, by omega⟩
    rw [laws_eqItem.f, if_pos rfl, c k (by omega), Option.bind_some, if_pos rfl]))
theorem eqMsg_of (x : List S89) (u : List Int) (hl : x.length ≤ 1048576) (h1 : ∀ it ∈ x, it.f1.length ≤ 1048576) (hu : u.length ≤ 1048576) (he : ∀ it ∈ x, ∀ e ∈ it.f1, ∃ K : Nat, ∀ k, K ≤ k → laws_eqVal.f k e.f0 e.f1 e.f2.f0 e.f2.f1 e.f0 e.f1 e.f2.f0 e.f2.f1 = some true) : To (fun k => laws_eqMsg.f k x u x u) true := by
  obtain ⟨K, c⟩ := eqItemS_of x hl h1 he
  obtain ⟨M, d⟩ := eqByteS_ok u hu
  refine ⟨K + M + 1, fun k hk => ?_⟩
  obtain ⟨k, rfl⟩ : ∃ m, k = m + 1 := ⟨k - 1, by omega⟩
  show laws_eqMsg.f _ _ _ _ _ = _
  rw [laws_eqMsg.f, c k (by omega), Option.bind_some, if_pos rfl, d k (by omega), Option.bind_some, if_pos rfl]
theorem eqVal_ok (e : S91) (h : Small91 e) : ∃ K : Nat, ∀ k, K ≤ k → laws_eqVal.f k e.f0 e.f1 e.f2.f0 e.f2.f1 e.f0 e.f1 e.f2.f0 e.f2.f1 = some true := by
  induction h with
  | mk x h1 h2 h3 h4 ih =>
    obtain ⟨K, c⟩ := eqMsg_of x.f2.f0 x.f2.f1 h1 h2 h4 ih
    refine ⟨K + 1, fun k hk => ?_⟩
    obtain ⟨k, rfl⟩ : ∃ m, k = m + 1 := ⟨k - 1, by omega⟩
    have c := c k (by omega)
    simp only at c
    rw [laws_eqVal.f, if_pos rfl, if_pos rfl, c, Option.bind_some, if_pos rfl]
theorem eqMsg_ok (b : List S89 × List Int) (h : SmM b) : To (fun k => laws_eqMsg.f k b.1 b.2 b.1 b.2) true :=
  eqMsg_of b.1 b.2 h.1 (fun it hi => (h.2.1 it hi).1) h.2.2 (fun it hi e he => eqVal_ok e ((h.2.1 it hi).2 e he))

/-- A run of a question comes to an answer, which is yes if and only if P. -/
def Sa (f : Nat → Option Bool) (P : Prop) : Prop := ∃ r : Bool, (r = true ↔ P) ∧ To f r
theorem Sa.as {f g : Nat → Option Bool} {P Q : Prop} (h : Sa f P) (e : ∀ k, g k = f k) (pq : P ↔ Q) : Sa g Q := by
  obtain ⟨r, a, K, b⟩ := h
  exact ⟨r, a.trans pq, K, fun k hk => (e k).trans (b k hk)⟩
theorem Sa.succ {f g : Nat → Option Bool} {P : Prop} (h : Sa f P) (e : ∀ k, g (k + 1) = f k) : Sa g P := by
  obtain ⟨r, a, K, b⟩ := h
  refine ⟨r, a, K + 1, fun k hk => ?_⟩
  obtain ⟨k, rfl⟩ : ∃ m, k = m + 1 := ⟨k - 1, by omega⟩
  rw [e]; exact b k (by omega)
theorem Sa.no {P : Prop} (h : ¬ P) : Sa (fun _ => some false) P := ⟨false, by simp [h], 0, fun _ _ => rfl⟩
theorem Sa.yes {P : Prop} (h : P) : Sa (fun _ => some true) P := ⟨true, by simp [h], 0, fun _ _ => rfl⟩
theorem Sa.bind {f g : Nat → Option Bool} {P Q : Prop} (h : Sa f P) (hg : P → Sa g Q) : Sa (fun k => (f k).bind fun t => (if t = true then g k else some false)) (P ∧ Q) := by
  obtain ⟨r, a, K, b⟩ := h
  cases r with
  | false => exact ⟨false, by simp only [Bool.false_eq_true, false_iff] at a ⊢; exact fun p => a p.1, K, fun k hk => by show (f k).bind _ = _; rw [b k hk, Option.bind_some, if_neg (by decide)]⟩
  | true =>
    obtain ⟨q, c, M, d⟩ := hg (a.1 rfl)
    exact ⟨q, c.trans ⟨fun q => ⟨a.1 rfl, q⟩, fun p => p.2⟩, max K M, fun k hk => by show (f k).bind _ = _; rw [b k (by omega), Option.bind_some, if_pos rfl]; exact d k (by omega)⟩
theorem Sa.ite {g : Nat → Option Bool} {P Q : Prop} [Decidable P] (hg : P → Sa g Q) : Sa (fun k => if P then g k else some false) (P ∧ Q) := by
  by_cases p : P
  · exact (hg p).as (fun k => if_pos p) ⟨fun q => ⟨p, q⟩, fun q => q.2⟩
  · exact (Sa.no (P := P ∧ Q) (fun q => p q.1)).as (fun k => if_neg p) Iff.rfl
theorem Sa.last {f : Nat → Option Bool} {P : Prop} (h : Sa f P) : Sa (fun k => (f k).bind fun t => some t) P := h.as (fun k => by show (f k).bind _ = _; cases f k <;> rfl) Iff.rfl
theorem Sa.eq {f g : Nat → Option Bool} {P Q : Prop} (h : Sa f P) (k : Sa g Q) (pq : P ↔ Q) : ∃ r, To f r ∧ To g r := by
  obtain ⟨r, a, x⟩ := h; obtain ⟨q, b, y⟩ := k
  have : r = q := Bool.eq_iff_iff.mpr (a.trans (pq.trans b.symm))
  subst this; exact ⟨r, x, y⟩
/-- A walk along two lists that ends at the first place where they differ. -/
theorem Sa.walk (L : Nat → Int → Option Bool) (n : Nat) (hn : n ≤ 1048576) (p : Nat → Prop) (R : Prop) (hend : Sa (fun k => L k (n : Int)) R) (hstep : ∀ i : Nat, i < n → ∃ (b : Bool) (K : Nat), (b = true ↔ p i) ∧ ∀ k, K ≤ k → L (k + 1) (i : Int) = if b = true then L k (wrap64 ((i : Int) + 1)) else some false) : Sa (fun k => L k 0) ((∀ i, i < n → p i) ∧ R) := by
  have aux : ∀ (d i : Nat), n - i = d → i ≤ n → Sa (fun k => L k (i : Int)) ((∀ j, i ≤ j → j < n → p j) ∧ R) := by
    intro d
    induction d with
    | zero =>
      intro i hd hi
      obtain rfl : i = n := by omega
      exact hend.as (fun _ => rfl) ⟨fun r => ⟨fun j _ _ => by omega, r⟩, fun q => q.2⟩
    | succ d ih =>
      intro i hd hi
      obtain ⟨b, K, c, e⟩ := hstep i (by omega)
      have hw : wrap64 ((i : Int) + 1) = ((i + 1 : Nat) : Int) := by rw [w64 (by omega) (by omega)]; omega
      cases b with
      | false =>
        refine ⟨false, ?_, K + 1, fun k hk => ?_⟩
        · simp only [Bool.false_eq_true, false_iff] at c ⊢; exact fun q => c (q.1 i (by omega) (by omega))
        · obtain ⟨k, rfl⟩ : ∃ m, k = m + 1 := ⟨k - 1, by omega⟩
          show L (k + 1) _ = _
          rw [e k (by omega), if_neg (by decide)]
      | true =>
        obtain ⟨r, a, M, g⟩ := ih (i + 1) (by omega) (by omega)
        refine ⟨r, a.trans ⟨fun q => ⟨fun j h1 h2 => ?_, q.2⟩, fun q => ⟨fun j h1 h2 => q.1 j (by omega) h2, q.2⟩⟩, max K M + 1, fun k hk => ?_⟩
        · by_cases x : j = i
          · subst x; exact c.1 rfl
          · exact q.1 j (by omega) h2
        · obtain ⟨k, rfl⟩ : ∃ m, k = m + 1 := ⟨k - 1, by omega⟩
          show L (k + 1) _ = _
          rw [e k (by omega), if_pos rfl, hw]; exact g k (by omega)
  exact (aux n 0 (by omega) (by omega)).as (fun _ => rfl) ⟨fun q => ⟨fun i h => q.1 i (by omega) h, q.2⟩, fun q => ⟨fun j _ h => q.1 j h, q.2⟩⟩
theorem Sa.round {g : Nat → Option Bool} {p : Prop} (b : Bool) (h : b = true ↔ p) {L : Nat → Option Bool} (e : ∀ k, g k = if b = true then L k else some false) : ∃ (b : Bool) (K : Nat), (b = true ↔ p) ∧ ∀ k, K ≤ k → g k = if b = true then L k else some false := ⟨b, 0, h, fun k _ => e k⟩
theorem Sa.roundE {f g : Nat → Option Bool} {p : Prop} (h : Sa f p) {L : Nat → Option Bool} (e : ∀ k, g k = (f k).bind fun t => (if t = true then L k else some false)) : ∃ (b : Bool) (K : Nat), (b = true ↔ p) ∧ ∀ k, K ≤ k → g k = if b = true then L k else some false := by
  obtain ⟨r, a, K, b⟩ := h
  exact ⟨r, K, a, fun k hk => by rw [e, b k hk, Option.bind_some]⟩
theorem two_ifs {P Q : Prop} [Decidable P] [Decidable Q] {α : Type} (x y : α) : (if P then (if Q then x else y) else y) = if (decide (P ∧ Q)) = true then x else y := by by_cases h : P <;> by_cases g : Q <;> simp [h, g]
theorem one_if {P : Prop} [Decidable P] {α : Type} (x y : α) : (if P then x else y) = if (decide P) = true then x else y := by by_cases h : P <;> simp [h]

theorem mem91 (x : List S91) (i : Nat) (h : i < x.length) : rd_T91 x i ∈ x := by rw [show rd_T91 x (i : Int) = x[i] from rdf_getD z91 x i h]; exact List.getElem_mem h
theorem mem89 (x : List S89) (i : Nat) (h : i < x.length) : rd_T89 x i ∈ x := by rw [show rd_T89 x (i : Int) = x[i] from rdf_getD z89 x i h]; exact List.getElem_mem h
theorem specBytes (x y : List Int) (h : x.length ≤ 1048576) : Sa (fun k => spec_l1Same.f k x y) (x.length = y.length ∧ ∀ i : Nat, i < x.length → rd x i = rd y i) := by
  refine Sa.as (Sa.ite (P := (x.length : Int) = (y.length : Int)) (g := fun k => spec_l1Same.l0 k x y 0) (Q := (∀ i : Nat, i < x.length → rd x i = rd y i) ∧ True) (fun hl => Sa.walk (fun k i => spec_l1Same.l0 k x y i) x.length h _ True ?_ ?_)) (fun k => rfl) (by rw [and_true]; exact ⟨fun p => ⟨by omega, p.2⟩, fun p => ⟨by omega, p.2⟩⟩)
  · exact (Sa.yes trivial).succ (fun k => by rw [spec_l1Same.l0, if_neg (by omega)])
  · intro i hi
    exact Sa.round (decide (rd x i = rd y i)) decide_eq_true_iff (fun k => by rw [spec_l1Same.l0, if_pos (by omega), if_pos (by omega), if_pos (by omega), one_if])
theorem implBytes (x y : List Int) (h : x.length ≤ 1048576) : Sa (fun k => slices_Equal_byte_byte.f k x y) (x.length = y.length ∧ ∀ i : Nat, i < x.length → rd x i = rd y i) := by
  refine Sa.as (Sa.ite (P := (x.length : Int) = (y.length : Int)) (g := fun k => slices_Equal_byte_byte.l0 k x y (x.length : Int) 0) (Q := (∀ i : Nat, i < x.length → rd x i = rd y i) ∧ True) (fun hl => Sa.walk (fun k i => slices_Equal_byte_byte.l0 k x y (x.length : Int) i) x.length h _ True ?_ ?_)) (fun k => rfl) (by rw [and_true]; exact ⟨fun p => ⟨by omega, p.2⟩, fun p => ⟨by omega, p.2⟩⟩)
  · exact (Sa.yes trivial).succ (fun k => by rw [slices_Equal_byte_byte.l0, if_neg (by omega)])
  · intro i hi
    exact Sa.round (decide (rd x i = rd y i)) decide_eq_true_iff (fun k => by rw [slices_Equal_byte_byte.l0, if_pos (by omega), if_pos (by omega), if_pos (by omega), if_pos (by omega), one_if])
/-- Two values' messages are the same, as the specification says. -/
def Msame (a b : S91) : Prop := To (fun k => spec_SameMsg.f k a.f2.f0 a.f2.f1 b.f2.f0 b.f2.f1) true
def PVv (a b : S91) : Prop := a.f0 = b.f0 ∧ a.f1.toList = b.f1.toList ∧ Msame a b
def PI (a b : S89) : Prop := a.f0 = b.f0 ∧ a.f1.length = b.f1.length ∧ ∀ j : Nat, j < a.f1.length → PVv (rd_T91 a.f1 j) (rd_T91 b.f1 j)
def PMg (x : List S89) (u : List Int) (y : List S89) (v : List Int) : Prop := x.length = y.length ∧ (u.length = v.length ∧ ∀ i : Nat, i < u.length → rd u i = rd v i) ∧ ∀ i : Nat, i < x.length → PI (rd_T89 x i) (rd_T89 y i)
theorem Sa.self {f : Nat → Option Bool} {P : Prop} (h : Sa f P) : P ↔ To f true := by
  obtain ⟨r, a, b⟩ := h
  exact ⟨fun p => by rw [a.2 p] at b; exact b, fun t => a.1 (b.one t)⟩
theorem specM (x : List S89) (u : List Int) (y : List S89) (v : List Int) (hx : x.length ≤ 1048576) (hu : u.length ≤ 1048576) (h1 : ∀ it ∈ x, it.f1.length ≤ 1048576)
    (he : ∀ it ∈ x, ∀ e ∈ it.f1, ∀ b : S91, Sa (fun k => spec_SameMsg.f k e.f2.f0 e.f2.f1 b.f2.f0 b.f2.f1) (Msame e b)) : Sa (fun k => spec_SameMsg.f k x u y v) (PMg x u y v) := by
  have hj : ∀ t : Bool, t = true → Sa (fun k => spec_SameMsg.j0 k t x u y v) False := fun t ht => (Sa.no (P := False) (fun x => x)).succ (fun k => by rw [spec_SameMsg.j0, if_pos ht])
  by_cases c1 : x.length = y.length
  case neg => exact ((hj true rfl).succ (fun k => by rw [spec_SameMsg.f, if_neg (by omega)])).as (fun _ => rfl) (by unfold PMg; simp [c1])
  have main : Sa (fun k => spec_SameMsg.l0 k 0 x u y v) (∀ i : Nat, i < x.length → PI (rd_T89 x i) (rd_T89 y i)) := by
    have aux : ∀ (d i : Nat), x.length - i = d → i ≤ x.length → Sa (fun k => spec_SameMsg.l0 k (i : Int) x u y v) (∀ j : Nat, i ≤ j → j < x.length → PI (rd_T89 x j) (rd_T89 y j)) := by
      intro d
      induction d with
      | zero =>
        intro i hd hi
        exact (Sa.yes (P := ∀ j : Nat, i ≤ j → j < x.length → PI (rd_T89 x j) (rd_T89 y j)) (fun j a b => by omega)).succ (fun k => by rw [spec_SameMsg.l0, if_neg (by omega)])
      | succ d ih =>
        intro i hd hi
        have hw : wrap64 ((i : Int) + 1) = ((i + 1 : Nat) : Int) := by rw [w64 (by omega) (by omega)]; omega
        have ih := ih (i + 1) (by omega) (by omega)
        have hm := mem89 x i (by omega)
        have h1m := h1 _ hm
        have hem := he _ hm
        have hj2 : ∀ t : Bool, t = true → Sa (fun k => spec_SameMsg.j2 k (i : Int) t x u y v ((rd_T89 x i).f0) ((rd_T89 x i).f1) ((rd_T89 y i).f0) ((rd_T89 y i).f1)) False := fun t ht => (Sa.no (P := False) (fun x => x)).succ (fun k => by rw [spec_SameMsg.j2, if_pos ht])
        have part : Sa (fun k => spec_SameMsg.l0 (k + 1) (i : Int) x u y v) (PI (rd_T89 x i) (rd_T89 y i) ∧ ∀ j : Nat, i + 1 ≤ j → j < x.length → PI (rd_T89 x j) (rd_T89 y j)) := by
          by_cases c2 : (rd_T89 x i).f0 = (rd_T89 y i).f0
          case neg => exact (hj2 true rfl).as (fun k => by rw [spec_SameMsg.l0, if_pos (by omega), if_pos (by omega), if_pos (by omega), if_neg c2]) (by unfold PI; simp [c2])
          by_cases c3 : (rd_T89 x i).f1.length = (rd_T89 y i).f1.length
          case neg => exact (hj2 _ (by simp [bne_iff_ne]; omega)).as (f := fun k => spec_SameMsg.j2 k (i : Int) ((((rd_T89 x i).f1).length : Int) != (((rd_T89 y i).f1).length : Int)) x u y v ((rd_T89 x i).f0) ((rd_T89 x i).f1) ((rd_T89 y i).f0) ((rd_T89 y i).f1)) (fun k => by rw [spec_SameMsg.l0, if_pos (by omega), if_pos (by omega), if_pos (by omega), if_pos c2]) (by unfold PI; simp [c3])
          refine Sa.as (f := fun k => spec_SameMsg.j2 k (i : Int) false x u y v ((rd_T89 x i).f0) ((rd_T89 x i).f1) ((rd_T89 y i).f0) ((rd_T89 y i).f1)) (P := (∀ j : Nat, j < (rd_T89 x i).f1.length → PVv (rd_T91 (rd_T89 x i).f1 j) (rd_T91 (rd_T89 y i).f1 j)) ∧ ∀ j : Nat, i + 1 ≤ j → j < x.length → PI (rd_T89 x j) (rd_T89 y j)) (Sa.succ (f := fun k => spec_SameMsg.l1 k (i : Int) 0 x u y v ((rd_T89 x i).f0) ((rd_T89 x i).f1) ((rd_T89 y i).f0) ((rd_T89 y i).f1)) (Sa.walk (fun k j => spec_SameMsg.l1 k (i : Int) j x u y v ((rd_T89 x i).f0) ((rd_T89 x i).f1) ((rd_T89 y i).f0) ((rd_T89 y i).f1)) (rd_T89 x i).f1.length h1m _ _ ?_ ?_) (fun k => by rw [spec_SameMsg.j2, if_neg (by decide)])) (fun k => by rw [spec_SameMsg.l0, if_pos (by omega), if_pos (by omega), if_pos (by omega), if_pos c2, c3, bne_self_eq_false]) (by unfold PI; simp only [c2, c3, true_and])
          · exact ih.succ (fun k => by rw [spec_SameMsg.l1, if_neg (by omega), hw])
          · intro j hj
            have hs := hem _ (mem91 _ j hj) (rd_T91 (rd_T89 y i).f1 j)
            by_cases d1 : (rd_T91 (rd_T89 x i).f1 j).f0 = (rd_T91 (rd_T89 y i).f1 j).f0
            case neg => exact Sa.round false (by unfold PVv; simp [d1]) (fun k => by rw [spec_SameMsg.l1, if_pos (by omega), if_pos (by omega), if_pos (by omega), if_neg d1, if_neg (by decide)])
            by_cases d2 : (rd_T91 (rd_T89 x i).f1 j).f1.toList = (rd_T91 (rd_T89 y i).f1 j).f1.toList
            case neg => exact Sa.round false (by unfold PVv; simp [d2]) (fun k => by rw [spec_SameMsg.l1, if_pos (by omega), if_pos (by omega), if_pos (by omega), if_pos d1, if_neg d2, if_neg (by decide)])
            exact Sa.roundE (hs.as (fun _ => rfl) (by unfold PVv; simp [d1, d2])) (fun k => by rw [spec_SameMsg.l1, if_pos (by omega), if_pos (by omega), if_pos (by omega), if_pos d1, if_pos d2])
        obtain ⟨r, a, K, b⟩ := part
        refine ⟨r, a.trans ⟨fun q j a b => ?_, fun q => ⟨q i (by omega) (by omega), fun j a b => q j (by omega) b⟩⟩, K + 1, fun k hk => ?_⟩
        · by_cases e : j = i
          · subst e; exact q.1
          · exact q.2 j (by omega) b
        · obtain ⟨k, rfl⟩ : ∃ m, k = m + 1 := ⟨k - 1, by omega⟩
          exact b k (by omega)
    exact (aux x.length 0 (by omega) (by omega)).as (fun _ => rfl) ⟨fun q j a => q j (by omega) a, fun q j _ a => q j a⟩
  obtain ⟨r, a, K, b⟩ := specBytes u v hu
  have b : ∀ k, K ≤ k → spec_l1Same.f k u v = some r := b
  cases r with
  | false =>
    simp only [Bool.false_eq_true, false_iff] at a
    obtain ⟨r, a', M, g⟩ := hj (!false) rfl
    have g : ∀ k, M ≤ k → spec_SameMsg.j0 k (!false) x u y v = some r := g
    refine ⟨r, a'.trans ⟨fun q => q.elim, fun q => (a q.2.1).elim⟩, K + M + 1, fun k hk => ?_⟩
    obtain ⟨k, rfl⟩ : ∃ m, k = m + 1 := ⟨k - 1, by omega⟩
    show spec_SameMsg.f _ _ _ _ _ = _
    rw [spec_SameMsg.f, if_pos (by omega), b k (by omega), Option.bind_some]; exact g k (by omega)
  | true =>
    obtain ⟨r, a', M, g⟩ := main
    have g : ∀ k, M ≤ k → spec_SameMsg.l0 k 0 x u y v = some r := g
    refine ⟨r, a'.trans ⟨fun q => ⟨c1, a.1 rfl, q⟩, fun q => q.2.2⟩, K + M + 2, fun k hk => ?_⟩
    obtain ⟨k, rfl⟩ : ∃ m, k = m + 2 := ⟨k - 2, by omega⟩
    show spec_SameMsg.f _ _ _ _ _ = _
    rw [spec_SameMsg.f, if_pos (by omega), b _ (by omega), Option.bind_some, spec_SameMsg.j0, if_neg (by decide)]; exact g k (by omega)
theorem implVals (x y : List S91) (h : x.length ≤ 1048576) (he : ∀ e ∈ x, ∀ b : S91, Sa (fun k => impl_SameMsg.f k e.f2.f0 e.f2.f1 b.f2.f0 b.f2.f1) (Msame e b)) : Sa (fun k => impl_Val__impl_sameVal.f k x y) (x.length = y.length ∧ ∀ i : Nat, i < x.length → PVv (rd_T91 x i) (rd_T91 y i)) := by
  refine Sa.succ (Sa.as (Sa.ite (P := (x.length : Int) = (y.length : Int)) (g := fun k => impl_Val__impl_sameVal.l0 k y x (x.length : Int) 0) (Q := (∀ i : Nat, i < x.length → PVv (rd_T91 x i) (rd_T91 y i)) ∧ True) (fun hl => Sa.walk (fun k i => impl_Val__impl_sameVal.l0 k y x (x.length : Int) i) x.length h _ True ?_ ?_)) (fun k => rfl) (by rw [and_true]; exact ⟨fun p => ⟨by omega, p.2⟩, fun p => ⟨by omega, p.2⟩⟩)) (fun k => by rw [impl_Val__impl_sameVal.f])
  · exact (Sa.yes trivial).succ (fun k => by rw [impl_Val__impl_sameVal.l0, if_neg (by omega)])
  · intro i hi
    have hs := he _ (mem91 x i hi) (rd_T91 y i)
    refine Sa.roundE (f := fun k => impl_sameVal.f k ((rd_T91 x i).f0) ((rd_T91 x i).f1) ((rd_T91 x i).f2.f0) ((rd_T91 x i).f2.f1) ((rd_T91 y i).f0) ((rd_T91 y i).f1) ((rd_T91 y i).f2.f0) ((rd_T91 y i).f2.f1)) ?_ (fun k => by rw [impl_Val__impl_sameVal.l0, if_pos (by omega), if_pos (by omega), if_pos (by omega), if_pos (by omega)])
    exact Sa.succ (Sa.as (Sa.ite (P := (rd_T91 x i).f0 = (rd_T91 y i).f0) (fun _ => Sa.ite (P := (rd_T91 x i).f1.toList = (rd_T91 y i).f1.toList) (fun _ => hs.last))) (fun _ => rfl) Iff.rfl) (fun k => by rw [impl_sameVal.f])
theorem implItems (x y : List S89) (h : x.length ≤ 1048576) (h1 : ∀ it ∈ x, it.f1.length ≤ 1048576) (he : ∀ it ∈ x, ∀ e ∈ it.f1, ∀ b : S91, Sa (fun k => impl_SameMsg.f k e.f2.f0 e.f2.f1 b.f2.f0 b.f2.f1) (Msame e b)) : Sa (fun k => impl_Item__impl_SameMsg_1.f k x y) (x.length = y.length ∧ ∀ i : Nat, i < x.length → PI (rd_T89 x i) (rd_T89 y i)) := by
  refine Sa.succ (Sa.as (Sa.ite (P := (x.length : Int) = (y.length : Int)) (g := fun k => impl_Item__impl_SameMsg_1.l0 k y x (x.length : Int) 0) (Q := (∀ i : Nat, i < x.length → PI (rd_T89 x i) (rd_T89 y i)) ∧ True) (fun hl => Sa.walk (fun k i => impl_Item__impl_SameMsg_1.l0 k y x (x.length : Int) i) x.length h _ True ?_ ?_)) (fun k => rfl) (by rw [and_true]; exact ⟨fun p => ⟨by omega, p.2⟩, fun p => ⟨by omega, p.2⟩⟩)) (fun k => by rw [impl_Item__impl_SameMsg_1.f])
  · exact (Sa.yes trivial).succ (fun k => by rw [impl_Item__impl_SameMsg_1.l0, if_neg (by omega)])
  · intro i hi
    have hm := mem89 x i hi
    refine Sa.roundE (f := fun k => impl_SameMsg_1.f k ((rd_T89 x i).f0) ((rd_T89 x i).f1) ((rd_T89 y i).f0) ((rd_T89 y i).f1)) ?_ (fun k => by rw [impl_Item__impl_SameMsg_1.l0, if_pos (by omega), if_pos (by omega), if_pos (by omega), if_pos (by omega)])
    exact Sa.succ (Sa.as (Sa.ite (P := (rd_T89 x i).f0 = (rd_T89 y i).f0) (fun _ => (implVals _ _ (h1 _ hm) (he _ hm)).last)) (fun _ => rfl) Iff.rfl) (fun k => by rw [impl_SameMsg_1.f])
theorem implM (x : List S89) (u : List Int) (y : List S89) (v : List Int) (hx : x.length ≤ 1048576) (hu : u.length ≤ 1048576) (h1 : ∀ it ∈ x, it.f1.length ≤ 1048576)
    (he : ∀ it ∈ x, ∀ e ∈ it.f1, ∀ b : S91, Sa (fun k => impl_SameMsg.f k e.f2.f0 e.f2.f1 b.f2.f0 b.f2.f1) (Msame e b)) : Sa (fun k => impl_SameMsg.f k x u y v) (PMg x u y v) :=
  Sa.succ (Sa.as ((implBytes u v hu).bind (fun _ => (implItems x y hx h1 he).last)) (fun _ => rfl) (by unfold PMg; exact ⟨fun p => ⟨p.2.1, p.1, p.2.2⟩, fun p => ⟨p.2.1, p.1, p.2.2⟩⟩)) (fun k => by rw [impl_SameMsg.f])
theorem bothV (e : S91) (h : Small91 e) : (∀ b : S91, Sa (fun k => spec_SameMsg.f k e.f2.f0 e.f2.f1 b.f2.f0 b.f2.f1) (Msame e b)) ∧ ∀ b : S91, Sa (fun k => impl_SameMsg.f k e.f2.f0 e.f2.f1 b.f2.f0 b.f2.f1) (Msame e b) := by
  induction h with
  | mk x h1 h2 h3 h4 ih =>
    have hs := fun b : S91 => specM x.f2.f0 x.f2.f1 b.f2.f0 b.f2.f1 h1 h4 h2 (fun it hi e he => (ih it hi e he).1)
    exact ⟨fun b => (hs b).as (fun _ => rfl) (hs b).self, fun b => (implM x.f2.f0 x.f2.f1 b.f2.f0 b.f2.f1 h1 h4 h2 (fun it hi e he => (ih it hi e he).2)).as (fun _ => rfl) (hs b).self⟩
theorem bothM (a b : List S89 × List Int) (h : SmM a) : ∃ r, To (fun k => spec_SameMsg.f k a.1 a.2 b.1 b.2) r ∧ To (fun k => impl_SameMsg.f k a.1 a.2 b.1 b.2) r :=
  (specM a.1 a.2 b.1 b.2 h.1 h.2.2 (fun it hi => (h.2.1 it hi).1) (fun it hi e he => (bothV e ((h.2.1 it hi).2 e he)).1)).eq (implM a.1 a.2 b.1 b.2 h.1 h.2.2 (fun it hi => (h.2.1 it hi).1) (fun it hi e he => (bothV e ((h.2.1 it hi).2 e he)).2)) Iff.rfl
theorem law_holds (l0_0 : List (S115)) (l0_1 : List Int) (l1_0 : List (S115)) (l1_1 : List Int) (g1 : l0_0.length ≤ maxLen ∧ ∀ x4 ∈ l0_0, good115 x4) (g2 : l0_1.length ≤ maxLen ∧ ∀ x4 ∈ l0_1, (Lit.int .u8 x4).wf = true) (g3 : l1_0.length ≤ maxLen ∧ ∀ x4 ∈ l1_0, good115 x4) (g4 : l1_1.length ≤ maxLen ∧ ∀ x4 ∈ l1_1, (Lit.int .u8 x4).wf = true) : ∃ k, laws_FnExactSameMsg.f k l0_0 l0_1 l1_0 l1_1 = some true := by
  obtain ⟨r, K, r0, r1, r2, r3⟩ := szMsg_ok l0_0 l0_1 g1 g2.1 1048576 (by omega) (by omega)
  have r3 : ∀ k, K ≤ k → laws_szMsg.f k l0_0 l0_1 1048576 = some r := r3
  by_cases hr : r < 0
  · exact ⟨K, by rw [laws_FnExactSameMsg.f, r3 K (by omega), Option.bind_some, if_pos hr]⟩
  obtain ⟨q, M, q0, q1, q2, q3⟩ := szMsg_ok l1_0 l1_1 g3 g4.1 r (by omega) (by omega)
  have q3 : ∀ k, M ≤ k → laws_szMsg.f k l1_0 l1_1 r = some q := q3
  by_cases hq : q < 0
  · exact ⟨K + M, by rw [laws_FnExactSameMsg.f, r3 _ (by omega), Option.bind_some, if_neg hr, q3 _ (by omega), Option.bind_some, if_pos hq]⟩
  obtain ⟨a, a1, A, ha⟩ := toMsg_ok l0_0 l0_1 (r2 (by omega))
  obtain ⟨b, b1, B, hb⟩ := toMsg_ok l1_0 l1_1 (q2 (by omega))
  obtain ⟨x, ⟨X, hx⟩, ⟨Y, hy⟩⟩ := bothM a b a1
  obtain ⟨E1, he1⟩ := eqMsg_ok a a1
  obtain ⟨E2, he2⟩ := eqMsg_ok b b1
  refine ⟨K + M + A + B + X + Y + E1 + E2, ?_⟩
  have ha := ha (K + M + A + B + X + Y + E1 + E2) (by omega)
  have hb := hb (K + M + A + B + X + Y + E1 + E2) (by omega)
  have hx := hx (K + M + A + B + X + Y + E1 + E2) (by omega)
  have hy := hy (K + M + A + B + X + Y + E1 + E2) (by omega)
  have he1 := he1 (K + M + A + B + X + Y + E1 + E2) (by omega)
  have he2 := he2 (K + M + A + B + X + Y + E1 + E2) (by omega)
  rw [laws_FnExactSameMsg.f, r3 _ (by omega), Option.bind_some, if_neg hr, q3 _ (by omega), Option.bind_some, if_neg hq]
  simp only at ha hb hx hy he1 he2
  simp only [ha, hb, Option.bind_some, hx, hy, he1, he2, bne_self_eq_false, Bool.false_eq_true, if_false, if_true]

theorem FnExactSameMsg : RFnExactSameMsg.Pure := law_holds

end Go.Proofs.Ytnchbgiojdijbaa.Pure
