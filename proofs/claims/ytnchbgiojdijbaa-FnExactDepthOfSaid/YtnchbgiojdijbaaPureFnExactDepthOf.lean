/- DepthOf: for each message the program's depth is the specification's, and the message stays as it was. No condition. -/
import Derived.Test.YtnchbgiojdijbaaPFnExactDepthOfx2
import Derived.Test.YtnchbgiojdijbaaLib
import Derived.Test.YtnchbgiojdijbaaRFnExactDepthOf
import Derived.Test.YtnchbgiojdijbaaOp
set_option linter.unusedSimpArgs false
set_option linter.unusedVariables false
namespace Go.Proofs.Ytnchbgiojdijbaa.Pure
open Go Go.RowKit Go.Proofs.Ytnchbgiojdijbaa.PFnExactDepthOf Go.Proofs.YtnchbgiojdijbaaW.PrintWords Go.Proofs.YtnchbgiojdijbaaW.PrintLast Go.Proofs.YtnchbgiojdijbaaW.PrintMore Go.Proofs.Ytnchbgiojdijbaa.Lib Go.Proofs.Ytnchbgiojdijbaa.RFnExactDepthOf

theorem mx_len : maxLen = 9223372036854775807 := rfl
/-- What a size's walk through a list comes to, out of what it comes to at an element. -/
theorem sz_loop {α : Type} (L : Nat → List α → Int → Int → Option Int) (E : Nat → α → Int → Option Int) (rdf : List α → Int → α) (small : α → Prop)
    (hrd : ∀ (x : List α) (i : Nat) (h : i < x.length), rdf x (i : Int) = x[i])
    (step : ∀ k x left i, L (k + 1) x left i = if i < (x.length : Int) then (if 0 ≤ i then ((E k (rdf x i) left).bind fun t => (if t < 0 then some (-1) else L k x t (wrap64 (i + 1)))) else none) else some left)
    (x : List α) (hl : x.length ≤ maxLen) (he : ∀ e ∈ x, ∀ left : Int, 0 ≤ left → left ≤ 1048576 → ∃ (r : Int) (K : Nat), -1 ≤ r ∧ r ≤ left ∧ (0 ≤ r → small e) ∧ ∀ k, K ≤ k → E k e left = some r) :
    ∀ left : Int, 0 ≤ left → left ≤ 1048576 → ∃ (r : Int) (K : Nat), -1 ≤ r ∧ r ≤ left ∧ (0 ≤ r → ∀ e ∈ x, small e) ∧ ∀ k, K ≤ k → L k x left 0 = some r := by
  have hm := mx_len
  have aux : ∀ (d i : Nat) (left : Int), x.length - i = d → i ≤ x.length → 0 ≤ left → left ≤ 1048576 → ∃ (r : Int) (K : Nat), -1 ≤ r ∧ r ≤ left ∧ (0 ≤ r → ∀ j (h : j < x.length), i ≤ j → small x[j]) ∧ ∀ k, K ≤ k → L k x left (i : Int) = some r := by
    intro d
    induction d with
    | zero =>
      intro i left hd hi h0 h1
      refine ⟨left, 1, by omega, by omega, fun _ j h hj => by omega, fun k hk => ?_⟩
      obtain ⟨k, rfl⟩ : ∃ m, k = m + 1 := ⟨k - 1, by omega⟩
      rw [step, if_neg (by omega)]
    | succ d ih =>
      intro i left hd hi h0 h1
      have hil : i < x.length := by omega
      obtain ⟨r, K, r0, r1, r2, r3⟩ := he x[i] (List.getElem_mem hil) left h0 h1
      by_cases hz : r < 0
      · refine ⟨-1, K + 1, by omega, by omega, fun h => by omega, fun k hk => ?_⟩
        obtain ⟨k, rfl⟩ : ∃ m, k = m + 1 := ⟨k - 1, by omega⟩
        rw [step, if_pos (by omega), if_pos (by omega), hrd x i hil, r3 k (by omega), Option.bind_some, if_pos hz]
      · obtain ⟨q, M, q0, q1, q2, q3⟩ := ih (i + 1) r (by omega) (by omega) (by omega) (by omega)
        refine ⟨q, max K M + 1, q0, by omega, fun hq j h hj => ?_, fun k hk => ?_⟩
        · by_cases e : j = i
          · subst e; exact r2 (by omega)
          · exact q2 hq j h (by omega)
        · obtain ⟨k, rfl⟩ : ∃ m, k = m + 1 := ⟨k - 1, by omega⟩
          rw [step, if_pos (by omega), if_pos (by omega), hrd x i hil, r3 k (by omega), Option.bind_some, if_neg hz, w64 (by omega) (by omega), show (i : Int) + 1 = ((i + 1 : Nat) : Int) by omega]
          exact q3 k (by omega)
  intro left h0 h1
  obtain ⟨r, K, a, b, c, d⟩ := aux x.length 0 left (by omega) (by omega) h0 h1
  refine ⟨r, K, a, b, fun hr e hm => ?_, d⟩
  obtain ⟨j, hj, rfl⟩ := List.getElem_of_mem hm
  exact c hr j hj (by omega)
theorem sz_list {α : Type} (F : Nat → List α → Int → Option Int) (L : Nat → List α → Int → Int → Option Int) (small : α → Prop) (c : Nat)
    (stepF : ∀ k x left, F (k + 1) x left = if wrap64 (left - (x.length : Int)) < 0 then some (-1) else L (k + c) x (wrap64 (left - (x.length : Int))) 0)
    (x : List α) (hl : x.length ≤ maxLen) (hL : ∀ left : Int, 0 ≤ left → left ≤ 1048576 → ∃ (r : Int) (K : Nat), -1 ≤ r ∧ r ≤ left ∧ (0 ≤ r → ∀ e ∈ x, small e) ∧ ∀ k, K ≤ k → L k x left 0 = some r) :
    ∀ left : Int, 0 ≤ left → left ≤ 1048576 → ∃ (r : Int) (K : Nat), -1 ≤ r ∧ r ≤ left ∧ (0 ≤ r → x.length ≤ 1048576 ∧ ∀ e ∈ x, small e) ∧ ∀ k, K ≤ k → F k x left = some r := by
  have hm := mx_len
  intro left h0 h1
  by_cases hz : left - (x.length : Int) < 0
  · refine ⟨-1, 1, by omega, by omega, fun h => by omega, fun k hk => ?_⟩
    obtain ⟨k, rfl⟩ : ∃ m, k = m + 1 := ⟨k - 1, by omega⟩
    rw [stepF, w64 (by omega) (by omega), if_pos hz]
  · obtain ⟨r, K, a, b, cc, d⟩ := hL (left - (x.length : Int)) (by omega) (by omega)
    refine ⟨r, K + 1, a, by omega, fun hr => ⟨by omega, cc hr⟩, fun k hk => ?_⟩
    obtain ⟨k, rfl⟩ : ∃ m, k = m + 1 := ⟨k - 1, by omega⟩
    rw [stepF, w64 (by omega) (by omega), if_neg hz]
    exact d (k + c) (by omega)
/-- What a copy of a list comes to. -/
theorem to_loop {α β γ : Type} (T : Nat → List α → List β → Int → Option (List β)) (E : Nat → α → Option γ) (mk : γ → β) (rdf : List α → Int → α) (small : β → Prop)
    (hrd : ∀ (x : List α) (i : Nat) (h : i < x.length), rdf x (i : Int) = x[i])
    (step : ∀ k x y i, T (k + 1) x y i = if i < (x.length : Int) then (if 0 ≤ i then ((E k (rdf x i)).bind fun b => (if i < (y.length : Int) then T k x (y.set i.toNat (mk b)) (wrap64 (i + 1)) else none)) else none) else some y)
    (x : List α) (hl : x.length ≤ 1048576) (he : ∀ e ∈ x, ∃ (b : γ) (K : Nat), small (mk b) ∧ ∀ k, K ≤ k → E k e = some b) (y : List β) (hy : y.length = x.length) :
    ∃ (z : List β) (K : Nat), z.length = x.length ∧ (∀ e ∈ z, small e) ∧ ∀ k, K ≤ k → T k x y 0 = some z := by
  have aux : ∀ (d i : Nat) (y : List β), x.length - i = d → i ≤ x.length → y.length = x.length → (∀ j (h : j < y.length), j < i → small y[j]) → ∃ (z : List β) (K : Nat), z.length = x.length ∧ (∀ e ∈ z, small e) ∧ ∀ k, K ≤ k → T k x y (i : Int) = some z := by
    intro d
    induction d with
    | zero =>
      intro i y hd hi hy hs
      refine ⟨y, 1, hy, fun e hm => ?_, fun k hk => ?_⟩
      · obtain ⟨j, hj, rfl⟩ := List.getElem_of_mem hm
        exact hs j hj (by omega)
      · obtain ⟨k, rfl⟩ : ∃ m, k = m + 1 := ⟨k - 1, by omega⟩
        rw [step, if_neg (by omega)]
    | succ d ih =>
      intro i y hd hi hy hs
      have hil : i < x.length := by omega
      obtain ⟨b, K, b1, b2⟩ := he x[i] (List.getElem_mem hil)
      obtain ⟨z, M, z1, z2, z3⟩ := ih (i + 1) (y.set i (mk b)) (by omega) (by omega) (by rw [List.length_set]; exact hy) (fun j h hj => by
        rw [List.getElem_set]
        split
        · exact b1
        · exact hs j (by rw [List.length_set] at h; exact h) (by omega))
      refine ⟨z, max K M + 1, z1, z2, fun k hk => ?_⟩
      obtain ⟨k, rfl⟩ : ∃ m, k = m + 1 := ⟨k - 1, by omega⟩
      rw [step, if_pos (by omega), if_pos (by omega), hrd x i hil, b2 k (by omega), Option.bind_some, if_pos (by omega), w64 (by omega) (by omega), show (i : Int) + 1 = ((i + 1 : Nat) : Int) by omega, Int.toNat_natCast]
      exact z3 k (by omega)
  exact aux x.length 0 y (by omega) (by omega) hy (fun j h hj => by omega)
theorem to_list {α β : Type} (F : Nat → List α → Option (List β)) (T : Nat → List α → List β → Int → Option (List β)) (zero : β) (small : β → Prop) (c lim : Nat) (hlim : 1048576 ≤ lim)
    (stepF : ∀ k x, F (k + 1) x = if 0 ≤ (x.length : Int) then (if ((x.length : Int) : Int).toNat ≤ lim then T (k + c) x (List.replicate ((x.length : Int) : Int).toNat zero) 0 else none) else none)
    (x : List α) (hl : x.length ≤ 1048576) (hT : ∀ y : List β, y.length = x.length → ∃ (z : List β) (K : Nat), z.length = x.length ∧ (∀ e ∈ z, small e) ∧ ∀ k, K ≤ k → T k x y 0 = some z) :
    ∃ (z : List β) (K : Nat), z.length ≤ 1048576 ∧ (∀ e ∈ z, small e) ∧ ∀ k, K ≤ k → F k x = some z := by
  obtain ⟨z, K, z1, z2, z3⟩ := hT (List.replicate x.length zero) (by rw [List.length_replicate])
  refine ⟨z, K + 1, by omega, z2, fun k hk => ?_⟩
  obtain ⟨k, rfl⟩ : ∃ m, k = m + 1 := ⟨k - 1, by omega⟩
  rw [stepF, Int.toNat_natCast, if_pos (by omega), if_pos (by omega)]
  exact z3 (k + c) (by omega)
/-- A list is equal to itself. -/
theorem eq_loop {β : Type} (Q : Nat → List β → List β → Int → Option Bool) (E : Nat → β → β → Option Bool) (rdf : List β → Int → β)
    (hrd : ∀ (x : List β) (i : Nat) (h : i < x.length), rdf x (i : Int) = x[i])
    (step : ∀ k x y i, Q (k + 1) x y i = if i < (x.length : Int) then (if 0 ≤ i then (if i < (y.length : Int) then ((E k (rdf x i) (rdf y i)).bind fun t => (if t = true then Q k x y (wrap64 (i + 1)) else none)) else none) else none) else some true)
    (x : List β) (hl : x.length ≤ 1048576) (he : ∀ e ∈ x, ∃ K : Nat, ∀ k, K ≤ k → E k e e = some true) : ∃ K : Nat, ∀ k, K ≤ k → Q k x x 0 = some true := by
  have aux : ∀ (d i : Nat), x.length - i = d → i ≤ x.length → ∃ K : Nat, ∀ k, K ≤ k → Q k x x (i : Int) = some true := by
    intro d
    induction d with
    | zero =>
      intro i hd hi
      refine ⟨1, fun k hk => ?_⟩
      obtain ⟨k, rfl⟩ : ∃ m, k = m + 1 := ⟨k - 1, by omega⟩
      rw [step, if_neg (by omega)]
    | succ d ih =>
      intro i hd hi
      have hil : i < x.length := by omega
      obtain ⟨K, h1⟩ := he x[i] (List.getElem_mem hil)
      obtain ⟨M, h2⟩ := ih (i + 1) (by omega) (by omega)
      refine ⟨max K M + 1, fun k hk => ?_⟩
      obtain ⟨k, rfl⟩ : ∃ m, k = m + 1 := ⟨k - 1, by omega⟩
      rw [step, if_pos (by omega), if_pos (by omega), if_pos (by omega), hrd x i hil, h1 k (by omega), Option.bind_some, if_pos rfl, w64 (by omega) (by omega), show (i : Int) + 1 = ((i + 1 : Nat) : Int) by omega]
      exact h2 k (by omega)
  exact aux x.length 0 (by omega) (by omega)
theorem eq_list {β : Type} (F : Nat → List β → List β → Option Bool) (Q : Nat → List β → List β → Int → Option Bool) (c : Nat)
    (stepF : ∀ k x y, F (k + 1) x y = if (x.length : Int) = (y.length : Int) then Q (k + c) x y 0 else none)
    (x : List β) (hQ : ∃ K : Nat, ∀ k, K ≤ k → Q k x x 0 = some true) : ∃ K : Nat, ∀ k, K ≤ k → F k x x = some true := by
  obtain ⟨K, h⟩ := hQ
  refine ⟨K + 1, fun k hk => ?_⟩
  obtain ⟨k, rfl⟩ : ∃ m, k = m + 1 := ⟨k - 1, by omega⟩
  rw [stepF, if_pos rfl]
  exact h (k + c) (by omega)
theorem rdf_getD {α : Type} (z : α) (x : List α) (i : Nat) (h : i < x.length) : x.getD ((i : Int)).toNat z = x[i] := by
  rw [Int.toNat_natCast, List.getD_eq_getElem?_getD, List.getElem?_eq_getElem h]; rfl

/-- A size's step: it comes to an answer, of -1 or what is left, and what is not -1 says that the thing is small. -/
def SzC (F : Nat → Int → Option Int) (P : Prop) : Prop := ∀ left : Int, 0 ≤ left → left ≤ 1048576 → ∃ (r : Int) (K : Nat), -1 ≤ r ∧ r ≤ left ∧ (0 ≤ r → P) ∧ ∀ k, K ≤ k → F k left = some r
theorem SzC.done : SzC (fun _ left => some left) True := fun left h0 h1 => ⟨left, 0, by omega, by omega, fun _ => trivial, fun _ _ => rfl⟩
theorem SzC.str {F : Nat → Int → Option Int} {P : Prop} (n : Nat) (hn : n ≤ maxLen) (h : SzC F P) : SzC (fun k left => if wrap64 (left - (n : Int)) < 0 then some (-1) else F k (wrap64 (left - (n : Int)))) (n ≤ 1048576 ∧ P) := by
  have hm := mx_len
  intro left h0 h1
  by_cases hz : left - (n : Int) < 0
  · refine ⟨-1, 0, by omega, by omega, fun h => by omega, fun k hk => ?_⟩
    show (if wrap64 (left - (n : Int)) < 0 then _ else _) = _
    rw [w64 (by omega) (by omega), if_pos hz]
  · obtain ⟨r, K, a, b, c, d⟩ := h (left - (n : Int)) (by omega) (by omega)
    refine ⟨r, K, a, by omega, fun hr => ⟨by omega, c hr⟩, fun k hk => ?_⟩
    show (if wrap64 (left - (n : Int)) < 0 then _ else _) = _
    rw [w64 (by omega) (by omega), if_neg hz]
    exact d k hk
theorem SzC.bind {F G : Nat → Int → Option Int} {P Q : Prop} (hF : SzC F P) (hG : SzC G Q) : SzC (fun k left => (F k left).bind fun t => (if t < 0 then some (-1) else G k t)) (P ∧ Q) := by
  intro left h0 h1
  obtain ⟨r, K, a, b, c, d⟩ := hF left h0 h1
  by_cases hz : r < 0
  · refine ⟨-1, K, by omega, by omega, fun h => by omega, fun k hk => ?_⟩
    show (F k left).bind _ = _
    rw [d k hk, Option.bind_some, if_pos hz]
  · obtain ⟨q, M, a', b', c', d'⟩ := hG r (by omega) (by omega)
    refine ⟨q, max K M, a', by omega, fun hq => ⟨c (by omega), c' hq⟩, fun k hk => ?_⟩
    show (F k left).bind _ = _
    rw [d k (by omega), Option.bind_some, if_neg hz]
    exact d' k (by omega)
theorem SzC.succ {F G : Nat → Int → Option Int} {P : Prop} (h : SzC F P) (e : ∀ k left, G (k + 1) left = F k left) : SzC G P := by
  intro left h0 h1
  obtain ⟨r, K, a, b, c, d⟩ := h left h0 h1
  refine ⟨r, K + 1, a, b, c, fun k hk => ?_⟩
  obtain ⟨k, rfl⟩ : ∃ m, k = m + 1 := ⟨k - 1, by omega⟩
  rw [e]; exact d k (by omega)
theorem SzC.as {F G : Nat → Int → Option Int} {P Q : Prop} (h : SzC F P) (e : ∀ k left, G k left = F k left) (pq : P → Q) : SzC G Q := by
  intro left h0 h1
  obtain ⟨r, K, a, b, c, d⟩ := h left h0 h1
  exact ⟨r, K, a, b, fun hr => pq (c hr), fun k hk => by rw [e]; exact d k hk⟩
theorem SzC.list {α : Type} {F : Nat → List α → Int → Option Int} (L : Nat → List α → Int → Int → Option Int) (E : Nat → α → Int → Option Int) (rdf : List α → Int → α) (small : α → Prop) (c : Nat)
    (hrd : ∀ (x : List α) (i : Nat) (h : i < x.length), rdf x (i : Int) = x[i])
    (step : ∀ k x left i, L (k + 1) x left i = if i < (x.length : Int) then (if 0 ≤ i then ((E k (rdf x i) left).bind fun t => (if t < 0 then some (-1) else L k x t (wrap64 (i + 1)))) else none) else some left)
    (stepF : ∀ k x left, F (k + 1) x left = if wrap64 (left - (x.length : Int)) < 0 then some (-1) else L (k + c) x (wrap64 (left - (x.length : Int))) 0)
    (x : List α) (hl : x.length ≤ maxLen) (he : ∀ e ∈ x, SzC (fun k left => E k e left) (small e)) : SzC (fun k left => F k x left) (x.length ≤ 1048576 ∧ ∀ e ∈ x, small e) :=
  sz_list F L small c stepF x hl (sz_loop L E rdf small hrd step x hl he)

theorem szByteS_ok (x : List Int) (hl : x.length ≤ maxLen) : SzC (fun _ left => laws_szByteS.f x left) (x.length ≤ 1048576) := (SzC.done.str _ hl).as (fun _ _ => rfl) (fun p => p.1)
/-- A value whose message's lists, and so on within, are short. -/
inductive Small123 : S123 → Prop
  | mk (x : S123) (h1 : x.f2.f0.length ≤ 1048576) (h2 : ∀ it ∈ x.f2.f0, it.f1.length ≤ 1048576) (h3 : ∀ it ∈ x.f2.f0, ∀ y ∈ it.f1, Small123 y) (h4 : x.f2.f1.length ≤ 1048576) : Small123 x
def Sm115 (it : S115) : Prop := it.f1.length ≤ 1048576 ∧ ∀ y ∈ it.f1, Small123 y
theorem szValS_of (x : List S123) (hl : x.length ≤ maxLen) (he : ∀ e ∈ x, SzC (fun k left => laws_szVal.f k e.f0 e.f1 e.f2.f0 e.f2.f1 left) (Small123 e)) : SzC (fun k left => laws_szValS.f k x left) (x.length ≤ 1048576 ∧ ∀ e ∈ x, Small123 e) :=
  SzC.list (F := laws_szValS.f) laws_szValS.l0 (fun k e left => laws_szVal.f k e.f0 e.f1 e.f2.f0 e.f2.f1 left) rd_T123 Small123 0 (fun x i h => rdf_getD z123 x i h) (fun k x left i => by rw [laws_szValS.l0]) (fun k x left => by rw [laws_szValS.f]; rfl) x hl he
theorem szItem_of (it : S115) (hl : it.f1.length ≤ maxLen) (he : ∀ e ∈ it.f1, SzC (fun k left => laws_szVal.f k e.f0 e.f1 e.f2.f0 e.f2.f1 left) (Small123 e)) : SzC (fun k left => laws_szItem.f k it.f0 it.f1 left) (Sm115 it) :=
  (((szValS_of it.f1 hl he).bind SzC.done).as (fun _ _ => rfl) (fun p => p.1)).succ (fun k left => by rw [laws_szItem.f])
theorem szItemS_of (x : List S115) (hl : x.length ≤ maxLen) (h1 : ∀ it ∈ x, it.f1.length ≤ maxLen) (he : ∀ it ∈ x, ∀ e ∈ it.f1, SzC (fun k left => laws_szVal.f k e.f0 e.f1 e.f2.f0 e.f2.f1 left) (Small123 e)) : SzC (fun k left => laws_szItemS.f k x left) (x.length ≤ 1048576 ∧ ∀ e ∈ x, Sm115 e) :=
  SzC.list (F := laws_szItemS.f) laws_szItemS.l0 (fun k e left => laws_szItem.f k e.f0 e.f1 left) rd_T115 Sm115 0 (fun x i h => rdf_getD z115 x i h) (fun k x left i => by rw [laws_szItemS.l0]) (fun k x left => by rw [laws_szItemS.f]; rfl) x hl (fun it hi => szItem_of it (h1 it hi) (he it hi))
theorem szMsg_of (x : List S115) (u : List Int) (hl : x.length ≤ maxLen) (h1 : ∀ it ∈ x, it.f1.length ≤ maxLen) (hu : u.length ≤ maxLen) (he : ∀ it ∈ x, ∀ e ∈ it.f1, SzC (fun k left => laws_szVal.f k e.f0 e.f1 e.f2.f0 e.f2.f1 left) (Small123 e)) : SzC (fun k left => laws_szMsg.f k x u left) ((x.length ≤ 1048576 ∧ ∀ e ∈ x, Sm115 e) ∧ u.length ≤ 1048576) :=
  (((szItemS_of x hl h1 he).bind ((szByteS_ok u hu).bind SzC.done)).as (fun _ _ => rfl) (fun p => ⟨p.1, p.2.1⟩)).succ (fun k left => by rw [laws_szMsg.f])
theorem szVal_ok (e : S123) (h : Good123 e) : SzC (fun k left => laws_szVal.f k e.f0 e.f1 e.f2.f0 e.f2.f1 left) (Small123 e) := by
  induction h with
  | mk x h0 h1 h2 h3 h4 h5 h6 h7 ih =>
    exact (SzC.as (((szMsg_of x.f2.f0 x.f2.f1 h2 h4 h6 ih).bind SzC.done).str _ h1) (fun _ _ => rfl) (fun p => Small123.mk x p.2.1.1.1 (fun it hi => (p.2.1.1.2 it hi).1) (fun it hi => (p.2.1.1.2 it hi).2) p.2.1.2)).succ (fun k left => by rw [laws_szVal.f])
theorem szMsg_ok (x : List S115) (u : List Int) (hx : x.length ≤ maxLen ∧ ∀ e ∈ x, good115 e) (hu : u.length ≤ maxLen) : SzC (fun k left => laws_szMsg.f k x u left) ((x.length ≤ 1048576 ∧ ∀ e ∈ x, Sm115 e) ∧ u.length ≤ 1048576) :=
  szMsg_of x u hx.1 (fun it hi => (hx.2 it hi).2.1) hu (fun it hi e he => szVal_ok e ((hx.2 it hi).2.2 e he))

/-- What a run comes to once it has rounds enough. -/
def To {α : Type} (f : Nat → Option α) (r : α) : Prop := ∃ K : Nat, ∀ k, K ≤ k → f k = some r
theorem To.one {α : Type} {f : Nat → Option α} {a b : α} (h : To f a) (g : To f b) : a = b := by
  obtain ⟨K, h⟩ := h; obtain ⟨M, g⟩ := g
  exact Option.some.inj ((h (max K M) (by omega)).symm.trans (g (max K M) (by omega)))

theorem toByteS_ok (x : List Int) (hl : x.length ≤ 1048576) : ∃ (z : List Int) (K : Nat), z.length ≤ 1048576 ∧ (∀ e ∈ z, True) ∧ ∀ k, K ≤ k → laws_toByteS.f k x = some z :=
  to_list (F := laws_toByteS.f) laws_toByteS.l0 (0 : Int) (fun _ => True) 1 281474976710656 (by omega) (fun k x => rfl) x hl (fun y hy => to_loop (T := laws_toByteS.l0) (fun _ e => some e) (fun b => b) (fun x i => rd x i) (fun _ => True) (fun x i h => rdf_getD (0 : Int) x i h) (fun k x y i => rfl) x hl (fun e he => ⟨_, 0, trivial, fun _ _ => rfl⟩) y hy)
/-- A copied value whose lists are short. -/
inductive Small91 : S91 → Prop
  | mk (x : S91) (h1 : x.f2.f0.length ≤ 1048576) (h2 : ∀ it ∈ x.f2.f0, it.f1.length ≤ 1048576) (h3 : ∀ it ∈ x.f2.f0, ∀ y ∈ it.f1, Small91 y) (h4 : x.f2.f1.length ≤ 1048576) : Small91 x
def Sm89 (it : S89) : Prop := it.f1.length ≤ 1048576 ∧ ∀ y ∈ it.f1, Small91 y
def mk91 (b : Int × ByteArray × (List (S89)) × List Int) : S91 := ⟨b.1, b.2.1, (⟨b.2.2.1, b.2.2.2⟩ : S57)⟩
def mk89 (b : Int × (List (S91))) : S89 := ⟨b.1, b.2⟩
theorem toValS_of (x : List S123) (hl : x.length ≤ 1048576) (he : ∀ e ∈ x, ∃ b K, Small91 (mk91 b) ∧ ∀ k, K ≤ k → laws_toVal.f k e.f0 e.f1 e.f2.f0 e.f2.f1 = some b) : ∃ (z : List S91) (K : Nat), z.length ≤ 1048576 ∧ (∀ e ∈ z, Small91 e) ∧ ∀ k, K ≤ k → laws_toValS.f k x = some z :=
  to_list (F := laws_toValS.f) laws_toValS.l0 z91 Small91 0 3909374676536 (by omega) (fun k x => by rw [laws_toValS.f]; rfl) x hl (fun y hy => to_loop (T := laws_toValS.l0) (fun k e => laws_toVal.f k e.f0 e.f1 e.f2.f0 e.f2.f1) mk91 rd_T123 Small91 (fun x i h => rdf_getD z123 x i h) (fun k x y i => by rw [laws_toValS.l0]; rfl) x hl he y hy)
theorem toItemS_of (x : List S115) (hl : x.length ≤ 1048576) (h1 : ∀ it ∈ x, it.f1.length ≤ 1048576) (he : ∀ it ∈ x, ∀ e ∈ it.f1, ∃ b K, Small91 (mk91 b) ∧ ∀ k, K ≤ k → laws_toVal.f k e.f0 e.f1 e.f2.f0 e.f2.f1 = some b) : ∃ (z : List S89) (K : Nat), z.length ≤ 1048576 ∧ (∀ e ∈ z, Sm89 e) ∧ ∀ k, K ≤ k → laws_toItemS.f k x = some z :=
  to_list (F := laws_toItemS.f) laws_toItemS.l0 z89 Sm89 0 8796093022208 (by omega) (fun k x => by rw [laws_toItemS.f]; rfl) x hl (fun y hy => to_loop (T := laws_toItemS.l0) (fun k e => laws_toItem.f k e.f0 e.f1) mk89 rd_T115 Sm89 (fun x i h => rdf_getD z115 x i h) (fun k x y i => by rw [laws_toItemS.l0]; rfl) x hl (fun it hi => by
    obtain ⟨z, K, a, b, c⟩ := toValS_of it.f1 (h1 it hi) (he it hi)
    refine ⟨(it.f0, z), K + 1, ⟨a, b⟩, fun k hk => ?_⟩
    obtain ⟨k, rfl⟩ : ∃ m, k = m + 1 := ⟨k - 1, by omega⟩
    rw [laws_toItem.f, c k (by omega), Option.bind_some]) y hy)
theorem toMsg_of (x : List S115) (u : List Int) (hl : x.length ≤ 1048576) (h1 : ∀ it ∈ x, it.f1.length ≤ 1048576) (hu : u.length ≤ 1048576) (he : ∀ it ∈ x, ∀ e ∈ it.f1, ∃ b K, Small91 (mk91 b) ∧ ∀ k, K ≤ k → laws_toVal.f k e.f0 e.f1 e.f2.f0 e.f2.f1 = some b) : ∃ b K, (b.1.length ≤ 1048576 ∧ (∀ e ∈ b.1, Sm89 e) ∧ b.2.length ≤ 1048576) ∧ ∀ k, K ≤ k → laws_toMsg.f k x u = some b := by
  obtain ⟨z, K, a, b, c⟩ := toItemS_of x hl h1 he
  obtain ⟨y, M, d, _, f⟩ := toByteS_ok u hu
  refine ⟨(z, y), K + M + 1, ⟨a, b, d⟩, fun k hk => ?_⟩
  obtain ⟨k, rfl⟩ : ∃ m, k = m + 1 := ⟨k - 1, by omega⟩
  rw [laws_toMsg.f, c k (by omega), Option.bind_some, f k (by omega), Option.bind_some]
theorem toVal_ok (e : S123) (h : Small123 e) : ∃ b K, Small91 (mk91 b) ∧ ∀ k, K ≤ k → laws_toVal.f k e.f0 e.f1 e.f2.f0 e.f2.f1 = some b := by
  induction h with
  | mk x h1 h2 h3 h4 ih =>
    obtain ⟨b, K, ⟨p, q, r⟩, c⟩ := toMsg_of x.f2.f0 x.f2.f1 h1 h2 h4 ih
    refine ⟨(x.f0, x.f1, b.1, b.2), K + 1, Small91.mk _ p (fun it hi => (q it hi).1) (fun it hi => (q it hi).2) r, fun k hk => ?_⟩
    obtain ⟨k, rfl⟩ : ∃ m, k = m + 1 := ⟨k - 1, by omega⟩
    rw [laws_toVal.f, c k (by omega), Option.bind_some]
/-- A message's two lists are short. -/
def SmM (b : List S89 × List Int) : Prop := b.1.length ≤ 1048576 ∧ (∀ e ∈ b.1, Sm89 e) ∧ b.2.length ≤ 1048576
theorem toMsg_ok (x : List S115) (u : List Int) (h : (x.length ≤ 1048576 ∧ ∀ e ∈ x, Sm115 e) ∧ u.length ≤ 1048576) : ∃ b, SmM b ∧ To (fun k => laws_toMsg.f k x u) b := by
  obtain ⟨b, K, p, c⟩ := toMsg_of x u h.1.1 (fun it hi => (h.1.2 it hi).1) h.2 (fun it hi e he => toVal_ok e ((h.1.2 it hi).2 e he))
  exact ⟨b, p, K, c⟩
-- a message is equal to itself
theorem eqByteS_ok (x : List Int) (hl : x.length ≤ 1048576) : ∃ K : Nat, ∀ k, K ≤ k → laws_eqByteS.f k x x = some true :=
  eq_list laws_eqByteS.f laws_eqByteS.l0 1 (fun k x y => rfl) x (eq_loop laws_eqByteS.l0 (fun _ a b => if a = b then some true else none) (fun x i => rd x i) (fun x i h => rdf_getD (0 : Int) x i h) (fun k x y i => by
    rw [laws_eqByteS.l0]
    by_cases c : rd x i = rd y i
    · simp only [if_pos c, Option.bind_some, if_true]
    · simp only [if_neg c, Option.bind_none]) x hl (fun e he => ⟨0, fun _ _ => if_pos rfl⟩))
theorem eqValS_of (x : List S91) (hl : x.length ≤ 1048576) (he : ∀ e ∈ x, ∃ K : Nat, ∀ k, K ≤ k → laws_eqVal.f k e.f0 e.f1 e.f2.f0 e.f2.f1 e.f0 e.f1 e.f2.f0 e.f2.f1 = some true) : ∃ K : Nat, ∀ k, K ≤ k → laws_eqValS.f k x x = some true :=
  eq_list laws_eqValS.f laws_eqValS.l0 0 (fun k x y => by rw [laws_eqValS.f]; rfl) x (eq_loop laws_eqValS.l0 (fun k a b => laws_eqVal.f k a.f0 a.f1 a.f2.f0 a.f2.f1 b.f0 b.f1 b.f2.f0 b.f2.f1) rd_T91 (fun x i h => rdf_getD z91 x i h) (fun k x y i => by rw [laws_eqValS.l0]) x hl he)
theorem eqItemS_of (x : List S89) (hl : x.length ≤ 1048576) (h1 : ∀ it ∈ x, it.f1.length ≤ 1048576) (he : ∀ it ∈ x, ∀ e ∈ it.f1, ∃ K : Nat, ∀ k, K ≤ k → laws_eqVal.f k e.f0 e.f1 e.f2.f0 e.f2.f1 e.f0 e.f1 e.f2.f0 e.f2.f1 = some true) : ∃ K : Nat, ∀ k, K ≤ k → laws_eqItemS.f k x x = some true :=
  eq_list laws_eqItemS.f laws_eqItemS.l0 0 (fun k x y => by rw [laws_eqItemS.f]; rfl) x (eq_loop laws_eqItemS.l0 (fun k a b => laws_eqItem.f k a.f0 a.f1 b.f0 b.f1) rd_T89 (fun x i h => rdf_getD z89 x i h) (fun k x y i => by rw [laws_eqItemS.l0]) x hl (fun it hi => by
    obtain ⟨K, c⟩ := eqValS_of it.f1 (h1 it hi) (he it hi)
    refine ⟨K + 1, fun k hk => ?_⟩
    obtain ⟨k, rfl⟩ : ∃ m, k = m + 1 := ⟨k - 1, by omega⟩
    rw [laws_eqItem.f, if_pos rfl, c k (by omega), Option.bind_some, if_pos rfl]))
theorem eqMsg_of (x : List S89) (u : List Int) (hl : x.length ≤ 1048576) (h1 : ∀ it ∈ x, it.f1.length ≤ 1048576) (hu : u.length ≤ 1048576) (he : ∀ it ∈ x, ∀ e ∈ it.f1, ∃ K : Nat, ∀ k, K ≤ k → laws_eqVal.f k e.f0 e.f1 e.f2.f0 e.f2.f1 e.f0 e.f1 e.f2.f0 e.f2.f1 = some true) : To (fun k => laws_eqMsg.f k x u x u) true := by
  obtain ⟨K, c⟩ := eqItemS_of x hl h1 he
  obtain ⟨M, d⟩ := eqByteS_ok u hu
  refine ⟨K + M + 1, fun k hk => ?_⟩
  obtain ⟨k, rfl⟩ : ∃ m, k = m + 1 := ⟨k - 1, by omega⟩
  show laws_eqMsg.f _ _ _ _ _ = _
  rw [laws_eqMsg.f, c k (by omega), Option.bind_some, if_pos rfl, d k (by omega), Option.bind_some, if_pos rfl]
theorem eqVal_ok (e : S91) (h : Small91 e) : ∃ K : Nat, ∀ k, K ≤ k → laws_eqVal.f k e.f0 e.f1 e.f2.f0 e.f2.f1 e.f0 e.f1 e.f2.f0 e.f2.f1 = some true := by
  induction h with
  | mk x h1 h2 h3 h4 ih =>
    obtain ⟨K, c⟩ := eqMsg_of x.f2.f0 x.f2.f1 h1 h2 h4 ih
    refine ⟨K + 1, fun k hk => ?_⟩
    obtain ⟨k, rfl⟩ : ∃ m, k = m + 1 := ⟨k - 1, by omega⟩
    have c := c k (by omega)
    simp only at c
    rw [laws_eqVal.f, if_pos rfl, if_pos rfl, c, Option.bind_some, if_pos rfl]
theorem eqMsg_ok (b : List S89 × List Int) (h : SmM b) : To (fun k => laws_eqMsg.f k b.1 b.2 b.1 b.2) true :=
  eqMsg_of b.1 b.2 h.1 (fun it hi => (h.2.1 it hi).1) h.2.2 (fun it hi e he => eqVal_ok e ((h.2.1 it hi).2 e he))

/-- What d rounds come to that begin at i. -/
def fd (st : Int → Nat → Int) : Nat → Nat → Int → Int
  | 0, _, m => m
  | d + 1, i, m => fd st d (i + 1) (st m i)
theorem fd_one (f g : Int → Nat → Int) : ∀ (d i : Nat) (m : Int), (∀ m j, i ≤ j → j < i + d → f m j = g m j) → fd f d i m = fd g d i m
  | 0, _, _, _ => rfl
  | d + 1, i, m, h => by
    show fd f d (i + 1) (f m i) = fd g d (i + 1) (g m i)
    rw [h m i (by omega) (by omega)]
    exact fd_one f g d (i + 1) _ (fun m j a b => h m j (by omega) (by omega))
/-- A walk with a number on the way, ended by what R says. -/
theorem walkF (L : Nat → Int → Int → Option Int) (n : Nat) (hn : n ≤ 1048576) (st : Int → Nat → Int) (R : Int → Int) (hend : ∀ m, To (fun k => L k m (n : Int)) (R m))
    (hstep : ∀ i : Nat, i < n → ∀ m, ∃ K : Nat, ∀ k, K ≤ k → L (k + 1) m (i : Int) = L k (st m i) (wrap64 ((i : Int) + 1))) : ∀ m, To (fun k => L k m 0) (R (fd st n 0 m)) := by
  have aux : ∀ (d i : Nat), n - i = d → i ≤ n → ∀ m, To (fun k => L k m (i : Int)) (R (fd st d i m)) := by
    intro d
    induction d with
    | zero =>
      intro i hd hi m
      obtain rfl : i = n := by omega
      exact hend m
    | succ d ih =>
      intro i hd hi m
      obtain ⟨K, e⟩ := hstep i (by omega) m
      obtain ⟨M, g⟩ := ih (i + 1) (by omega) (by omega) (st m i)
      refine ⟨K + M + 1, fun k hk => ?_⟩
      obtain ⟨k, rfl⟩ : ∃ q, k = q + 1 := ⟨k - 1, by omega⟩
      show L (k + 1) m _ = _
      rw [e k (by omega), w64 (by omega) (by omega), show (i : Int) + 1 = ((i + 1 : Nat) : Int) by omega]
      exact g k (by omega)
  exact fun m => aux n 0 (by omega) (by omega) m
/-- A walk whose rounds are walks. -/
theorem walkO (L : Nat → Int → Int → Option Int) (n : Nat) (hn : n ≤ 1048576) (g : Int → Nat → Int) (R : Int → Int) (hend : ∀ m, To (fun k => L k m (n : Int)) (R m))
    (hstep : ∀ i : Nat, i < n → ∀ Q : Int → Int, (∀ m, To (fun k => L k m (wrap64 ((i : Int) + 1))) (Q m)) → ∀ m, To (fun k => L k m (i : Int)) (Q (g m i))) : ∀ m, To (fun k => L k m 0) (R (fd g n 0 m)) := by
  have aux : ∀ (d i : Nat), n - i = d → i ≤ n → ∀ m, To (fun k => L k m (i : Int)) (R (fd g d i m)) := by
    intro d
    induction d with
    | zero =>
      intro i hd hi m
      obtain rfl : i = n := by omega
      exact hend m
    | succ d ih =>
      intro i hd hi m
      exact hstep i (by omega) (fun m => R (fd g d (i + 1) m)) (fun m => by rw [w64 (by omega) (by omega), show (i : Int) + 1 = ((i + 1 : Nat) : Int) by omega]; exact ih (i + 1) (by omega) (by omega) m) m
  exact fun m => aux n 0 (by omega) (by omega) m
theorem To.up {α : Type} {f g : Nat → Option α} {r : α} (h : To f r) (e : ∀ k, g (k + 1) = f k) : To g r := by
  obtain ⟨K, h⟩ := h
  refine ⟨K + 1, fun k hk => ?_⟩
  obtain ⟨k, rfl⟩ : ∃ q, k = q + 1 := ⟨k - 1, by omega⟩
  rw [e]; exact h k (by omega)
def em (a : List S89) (b : List Int) : Bool := if (a.length : Int) = 0 then (b.length : Int) == 0 else false
theorem em_spec (a : List S89) (b : List Int) : spec_l6Empty.f a b = some (em a b) := by unfold spec_l6Empty.f em; split <;> rfl
theorem em_impl (a : List S89) (b : List Int) : impl_isEmpty.f a b = some (em a b) := by unfold impl_isEmpty.f em; split <;> rfl
def Dok (v : S91) : Prop := ∃ r, To (fun k => spec_DepthOf.f k v.f2.f0 v.f2.f1) r ∧ To (fun k => impl_DepthOf.f k v.f2.f0 v.f2.f1) r
/-- The depth that both come to, where there is one. -/
noncomputable def dep (v : S91) : Int := by
  classical
  exact if h : Dok v then Classical.choose h else 0
theorem dep_is {v : S91} (h : Dok v) : To (fun k => spec_DepthOf.f k v.f2.f0 v.f2.f1) (dep v) ∧ To (fun k => impl_DepthOf.f k v.f2.f0 v.f2.f1) (dep v) := by
  unfold dep
  rw [dif_pos h]
  exact Classical.choose_spec h
noncomputable def stV (l : List S91) (m : Int) (j : Nat) : Int := if em (rd_T91 l j).f2.f0 (rd_T91 l j).f2.f1 = true then m else mx m (dep (rd_T91 l j))
noncomputable def stI (x : List S89) (m : Int) (i : Nat) : Int := fd (stV (rd_T89 x i).f1) (rd_T89 x i).f1.length 0 m
theorem mem91 (x : List S91) (i : Nat) (h : i < x.length) : rd_T91 x i ∈ x := by rw [show rd_T91 x (i : Int) = x[i] from rdf_getD z91 x i h]; exact List.getElem_mem h
theorem mem89 (x : List S89) (i : Nat) (h : i < x.length) : rd_T89 x i ∈ x := by rw [show rd_T89 x (i : Int) = x[i] from rdf_getD z89 x i h]; exact List.getElem_mem h
theorem specD (x : List S89) (u : List Int) (hx : x.length ≤ 1048576) (h1 : ∀ it ∈ x, it.f1.length ≤ 1048576) (he : ∀ it ∈ x, ∀ v ∈ it.f1, Dok v) : To (fun k => spec_DepthOf.f k x u) (wrap64 (fd (stI x) x.length 0 0 + 1)) := by
  refine To.up (walkO (fun k m i => spec_DepthOf.l0 k m i x u) x.length hx (stI x) (fun m => wrap64 (m + 1)) ?_ ?_ 0) (fun k => by rw [spec_DepthOf.f])
  · intro m
    exact To.up (f := fun _ => some (wrap64 (m + 1))) ⟨0, fun _ _ => rfl⟩ (fun k => by rw [spec_DepthOf.l0, if_neg (by omega)])
  · intro i hi Q hQ m
    have hm := mem89 x i hi
    refine To.up (walkF (fun k m j => spec_DepthOf.l1 k m (i : Int) j x u) (rd_T89 x i).f1.length (h1 _ hm) (stV (rd_T89 x i).f1) Q ?_ ?_ m) (fun k => by rw [spec_DepthOf.l0, if_pos (by omega)])
    · intro m
      exact To.up (hQ m) (fun k => by rw [spec_DepthOf.l1, if_pos (by omega), if_pos (by omega), if_neg (by omega)])
    · intro j hj m
      have hd := (dep_is (he _ hm _ (mem91 _ j hj))).1
      obtain ⟨K, hd⟩ := hd
      replace hd : ∀ k, K ≤ k → spec_DepthOf.f k _ _ = some _ := hd
      refine ⟨K, fun k hk => ?_⟩
      rw [spec_DepthOf.l1, if_pos (by omega), if_pos (by omega), if_pos (by omega), if_pos (by omega), em_spec, Option.bind_some]
      unfold stV
      by_cases c : em (rd_T91 (rd_T89 x i).f1 j).f2.f0 (rd_T91 (rd_T89 x i).f1 j).f2.f1 = true
      · rw [if_pos c, if_pos c]
      · rw [if_neg c, if_neg c, hd k hk, Option.bind_some]
        unfold mx
        by_cases g : dep (rd_T91 (rd_T89 x i).f1 j) > m
        · rw [if_pos g, if_pos (by omega)]
        · rw [if_neg g, if_neg (by omega)]
theorem implD (x : List S89) (u : List Int) (hx : x.length ≤ 1048576) (h1 : ∀ it ∈ x, it.f1.length ≤ 1048576) (he : ∀ it ∈ x, ∀ v ∈ it.f1, Dok v) : To (fun k => impl_DepthOf.f k x u) (wrap64 (fd (stI x) x.length 0 0 + 1)) := by
  refine To.up (walkO (fun k m i => impl_DepthOf.l0 k m x (x.length : Int) i) x.length hx (stI x) (fun m => wrap64 (m + 1)) ?_ ?_ 0) (fun k => by rw [impl_DepthOf.f])
  · intro m
    exact To.up (f := fun _ => some (wrap64 (m + 1))) ⟨0, fun _ _ => rfl⟩ (fun k => by rw [impl_DepthOf.l0, if_neg (by omega)])
  · intro i hi Q hQ m
    have hm := mem89 x i hi
    refine To.up (walkF (fun k m j => impl_DepthOf.l1 k m x (x.length : Int) (i : Int) (rd_T89 x i).f1 ((rd_T89 x i).f1.length : Int) j) (rd_T89 x i).f1.length (h1 _ hm) (stV (rd_T89 x i).f1) Q ?_ ?_ m) (fun k => by rw [impl_DepthOf.l0, if_pos (by omega), if_pos (by omega), if_pos (by omega)])
    · intro m
      exact To.up (hQ m) (fun k => by rw [impl_DepthOf.l1, if_neg (by omega)])
    · intro j hj m
      have hd := (dep_is (he _ hm _ (mem91 _ j hj))).2
      obtain ⟨K, hd⟩ := hd
      replace hd : ∀ k, K ≤ k → impl_DepthOf.f k _ _ = some _ := hd
      refine ⟨K, fun k hk => ?_⟩
      rw [impl_DepthOf.l1, if_pos (by omega), if_pos (by omega), if_pos (by omega), em_impl, Option.bind_some]
      unfold stV
      by_cases c : em (rd_T91 (rd_T89 x i).f1 j).f2.f0 (rd_T91 (rd_T89 x i).f1 j).f2.f1 = true
      · rw [if_pos c, if_pos c]
      · rw [if_neg c, if_neg c, hd k hk, Option.bind_some]
theorem dok (v : S91) (h : Small91 v) : Dok v := by
  induction h with
  | mk x h1 h2 h3 h4 ih => exact ⟨_, specD x.f2.f0 x.f2.f1 h1 h2 ih, implD x.f2.f0 x.f2.f1 h1 h2 ih⟩
theorem bothDepth (b : List S89 × List Int) (h : SmM b) : ∃ r, To (fun k => spec_DepthOf.f k b.1 b.2) r ∧ To (fun k => impl_DepthOf.f k b.1 b.2) r :=
  ⟨_, specD b.1 b.2 h.1 (fun it hi => (h.2.1 it hi).1) (fun it hi v hv => dok v ((h.2.1 it hi).2 v hv)), implD b.1 b.2 h.1 (fun it hi => (h.2.1 it hi).1) (fun it hi v hv => dok v ((h.2.1 it hi).2 v hv))⟩
theorem law_holds (l0_0 : List (S115)) (l0_1 : List Int) (g1 : l0_0.length ≤ maxLen ∧ ∀ x4 ∈ l0_0, good115 x4) (g2 : l0_1.length ≤ maxLen ∧ ∀ x4 ∈ l0_1, (Lit.int .u8 x4).wf = true) : ∃ k, laws_FnExactDepthOf.f k l0_0 l0_1 = some true := by
  obtain ⟨r, K, r0, r1, r2, r3⟩ := szMsg_ok l0_0 l0_1 g1 g2.1 1048576 (by omega) (by omega)
  have r3 : ∀ k, K ≤ k → laws_szMsg.f k l0_0 l0_1 1048576 = some r := r3
  by_cases hr : r < 0
  · exact ⟨K, by rw [laws_FnExactDepthOf.f, r3 K (by omega), Option.bind_some, if_pos hr]⟩
  obtain ⟨a, a1, A, ha⟩ := toMsg_ok l0_0 l0_1 (r2 (by omega))
  obtain ⟨x, ⟨X, hx⟩, ⟨Y, hy⟩⟩ := bothDepth a a1
  obtain ⟨E1, he1⟩ := eqMsg_ok a a1
  refine ⟨K + A + X + Y + E1, ?_⟩
  have ha := ha (K + A + X + Y + E1) (by omega)
  have hx := hx (K + A + X + Y + E1) (by omega)
  have hy := hy (K + A + X + Y + E1) (by omega)
  have he1 := he1 (K + A + X + Y + E1) (by omega)
  rw [laws_FnExactDepthOf.f, r3 _ (by omega), Option.bind_some, if_neg hr]
  simp only at ha hx hy he1
  simp only [ha, Option.bind_some, hx, hy, he1, if_true]

theorem FnExactDepthOf : RFnExactDepthOf.Pure := law_holds

end Go.Proofs.Ytnchbgiojdijbaa.Pure
