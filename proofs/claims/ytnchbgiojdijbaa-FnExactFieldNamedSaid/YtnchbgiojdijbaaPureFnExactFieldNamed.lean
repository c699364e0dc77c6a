/- FieldNamed: for each message's description and each name both tell the same place of a field, and the description stays as it was. No condition. -/
import Derived.Test.YtnchbgiojdijbaaPFnExactFieldNamedx3
import Derived.Test.YtnchbgiojdijbaaLib
import Derived.Test.YtnchbgiojdijbaaRFnExactFieldNamed
import Derived.Test.YtnchbgiojdijbaaOp
set_option linter.unusedSimpArgs false
set_option linter.unusedVariables false
namespace Go.Proofs.Ytnchbgiojdijbaa.Pure
open Go Go.RowKit Go.Proofs.Ytnchbgiojdijbaa.PFnExactFieldNamed Go.Proofs.YtnchbgiojdijbaaW.PrintWords Go.Proofs.YtnchbgiojdijbaaW.PrintLast Go.Proofs.YtnchbgiojdijbaaW.PrintMore Go.Proofs.Ytnchbgiojdijbaa.Lib Go.Proofs.Ytnchbgiojdijbaa.RFnExactFieldNamed

theorem mx_len : maxLen = 9223372036854775807 := rfl
theorem rd109_mem (l : List S109) (i : Nat) (h : i < l.length) : rd_T109 l (i : Int) ∈ l := by
  unfold rd_T109
  rw [Int.toNat_natCast, List.getD_eq_getElem?_getD, List.getElem?_eq_getElem h]
  exact List.getElem_mem h
theorem rdS_mem (l : List ByteArray) (i : Nat) (h : i < l.length) : rdOf ByteArray.empty l (i : Int) ∈ l := by
  unfold rdOf
  rw [Int.toNat_natCast, List.getD_eq_getElem?_getD, List.getElem?_eq_getElem h]
  exact List.getElem_mem h
theorem szfd_run (l : List S109) (hl : l.length ≤ maxLen) (hg : ∀ x ∈ l, x.f0.size ≤ maxLen) : ∀ (d i : Nat) (left : Int), l.length - i = d → i ≤ l.length → 0 ≤ left → left ≤ 1048576 → ∃ r : Int, -1 ≤ r ∧ r ≤ left ∧ ∀ k, d + 1 ≤ k → laws_szFieldDescS.l0 k l left (i : Int) = some r := by
  have hm := mx_len
  intro d
  induction d with
  | zero =>
    intro i left hd hi h0 h1
    refine ⟨left, by omega, by omega, fun k hk => ?_⟩
    obtain ⟨k, rfl⟩ : ∃ m, k = m + 1 := ⟨k - 1, by omega⟩
    simp only [laws_szFieldDescS.l0]
    rw [if_neg (by omega)]
  | succ d ih =>
    intro i left hd hi h0 h1
    have hs := hg _ (rd109_mem l i (by omega))
    by_cases hz : left - ((rd_T109 l (i : Int)).f0.size : Int) < 0
    · refine ⟨-1, by omega, by omega, fun k hk => ?_⟩
      obtain ⟨k, rfl⟩ : ∃ m, k = m + 1 := ⟨k - 1, by omega⟩
      simp only [laws_szFieldDescS.l0, laws_szFieldDesc.f]
      rw [if_pos (by omega), if_pos (by omega), w64 (n := left - ((rd_T109 l (i : Int)).f0.size : Int)) (by omega) (by omega), if_pos hz, Option.bind_some, if_pos (by omega)]
    · obtain ⟨r, r0, r1, r2⟩ := ih (i + 1) (left - ((rd_T109 l (i : Int)).f0.size : Int)) (by omega) (by omega) (by omega) (by omega)
      refine ⟨r, r0, by omega, fun k hk => ?_⟩
      obtain ⟨k, rfl⟩ : ∃ m, k = m + 1 := ⟨k - 1, by omega⟩
      simp only [laws_szFieldDescS.l0, laws_szFieldDesc.f]
      rw [if_pos (by omega), if_pos (by omega), w64 (n := left - ((rd_T109 l (i : Int)).f0.size : Int)) (by omega) (by omega), if_neg hz, Option.bind_some, if_neg hz, w64 (by omega) (by omega), show (i : Int) + 1 = ((i + 1 : Nat) : Int) by omega]
      exact r2 k (by omega)
theorem szfd (l : List S109) (hl : l.length ≤ maxLen) (hg : ∀ x ∈ l, x.f0.size ≤ maxLen) (left : Int) (h0 : 0 ≤ left) (h1 : left ≤ 1048576) : ∃ r : Int, -1 ≤ r ∧ r ≤ left ∧ (0 ≤ r → (l.length : Int) ≤ 1048576) ∧ ∀ k, l.length + 1 ≤ k → laws_szFieldDescS.f k l left = some r := by
  have hm := mx_len
  by_cases hz : left - (l.length : Int) < 0
  · refine ⟨-1, by omega, by omega, fun h => by omega, fun k hk => ?_⟩
    unfold laws_szFieldDescS.f
    rw [w64 (by omega) (by omega), if_pos hz]
  · obtain ⟨r, r0, r1, r2⟩ := szfd_run l hl hg l.length 0 (left - (l.length : Int)) (by omega) (by omega) (by omega) (by omega)
    refine ⟨r, r0, by omega, fun h => by omega, fun k hk => ?_⟩
    unfold laws_szFieldDescS.f
    rw [w64 (by omega) (by omega), if_neg hz]
    exact r2 k (by omega)
theorem szs_run (l : List ByteArray) (hl : l.length ≤ maxLen) (hg : ∀ x ∈ l, x.size ≤ maxLen) : ∀ (d i : Nat) (left : Int), l.length - i = d → i ≤ l.length → 0 ≤ left → left ≤ 1048576 → ∃ r : Int, -1 ≤ r ∧ r ≤ left ∧ ∀ k, d + 1 ≤ k → laws_szStringS.l0 k l left (i : Int) = some r := by
  have hm := mx_len
  intro d
  induction d with
  | zero =>
    intro i left hd hi h0 h1
    refine ⟨left, by omega, by omega, fun k hk => ?_⟩
    obtain ⟨k, rfl⟩ : ∃ m, k = m + 1 := ⟨k - 1, by omega⟩
    simp only [laws_szStringS.l0]
    rw [if_neg (by omega)]
  | succ d ih =>
    intro i left hd hi h0 h1
    have hs := hg _ (rdS_mem l i (by omega))
    by_cases hz : left - ((rdOf ByteArray.empty l (i : Int)).size : Int) < 0
    · refine ⟨-1, by omega, by omega, fun k hk => ?_⟩
      obtain ⟨k, rfl⟩ : ∃ m, k = m + 1 := ⟨k - 1, by omega⟩
      simp only [laws_szStringS.l0]
      rw [if_pos (by omega), if_pos (by omega), w64 (n := left - ((rdOf ByteArray.empty l (i : Int)).size : Int)) (by omega) (by omega), if_pos hz]
    · obtain ⟨r, r0, r1, r2⟩ := ih (i + 1) (left - ((rdOf ByteArray.empty l (i : Int)).size : Int)) (by omega) (by omega) (by omega) (by omega)
      refine ⟨r, r0, by omega, fun k hk => ?_⟩
      obtain ⟨k, rfl⟩ : ∃ m, k = m + 1 := ⟨k - 1, by omega⟩
      simp only [laws_szStringS.l0]
      rw [if_pos (by omega), if_pos (by omega), w64 (n := left - ((rdOf ByteArray.empty l (i : Int)).size : Int)) (by omega) (by omega), if_neg hz, w64 (by omega) (by omega), show (i : Int) + 1 = ((i + 1 : Nat) : Int) by omega]
      exact r2 k (by omega)
theorem szs (l : List ByteArray) (hl : l.length ≤ maxLen) (hg : ∀ x ∈ l, x.size ≤ maxLen) (left : Int) (h0 : 0 ≤ left) (h1 : left ≤ 1048576) : ∃ r : Int, -1 ≤ r ∧ r ≤ left ∧ (0 ≤ r → (l.length : Int) ≤ 1048576) ∧ ∀ k, l.length + 1 ≤ k → laws_szStringS.f k l left = some r := by
  have hm := mx_len
  by_cases hz : left - (l.length : Int) < 0
  · refine ⟨-1, by omega, by omega, fun h => by omega, fun k hk => ?_⟩
    unfold laws_szStringS.f
    rw [w64 (by omega) (by omega), if_pos hz]
  · obtain ⟨r, r0, r1, r2⟩ := szs_run l hl hg l.length 0 (left - (l.length : Int)) (by omega) (by omega) (by omega) (by omega)
    refine ⟨r, r0, by omega, fun h => by omega, fun k hk => ?_⟩
    unfold laws_szStringS.f
    rw [w64 (by omega) (by omega), if_neg hz]
    exact r2 k (by omega)
theorem szd (a : ByteArray) (l : List S109) (o : List ByteArray) (ha : a.size ≤ maxLen) (hl : l.length ≤ maxLen) (hg : ∀ x ∈ l, x.f0.size ≤ maxLen) (hl2 : o.length ≤ maxLen) (hg2 : ∀ x ∈ o, x.size ≤ maxLen) :
    ∃ r : Int, (0 ≤ r → (l.length : Int) ≤ 1048576 ∧ (o.length : Int) ≤ 1048576) ∧ ∀ k, l.length + o.length + 1 ≤ k → laws_szDesc.f k a l o 1048576 = some r := by
  have hm := mx_len
  by_cases hz : 1048576 - (a.size : Int) < 0
  · refine ⟨-1, fun h => by omega, fun k hk => ?_⟩
    unfold laws_szDesc.f
    rw [w64 (by omega) (by omega), if_pos hz]
  · obtain ⟨r, r0, r1, r2, r3⟩ := szfd l hl hg (1048576 - (a.size : Int)) (by omega) (by omega)
    by_cases hz2 : r < 0
    · refine ⟨-1, fun h => by omega, fun k hk => ?_⟩
      unfold laws_szDesc.f
      rw [w64 (by omega) (by omega), if_neg hz, r3 k (by omega), Option.bind_some, if_pos hz2]
    · obtain ⟨q, q0, q1, q2, q3⟩ := szs o hl2 hg2 r (by omega) (by omega)
      refine ⟨q, fun h => ⟨r2 (by omega), q2 h⟩, fun k hk => ?_⟩
      unfold laws_szDesc.f
      rw [w64 (by omega) (by omega), if_neg hz, r3 k (by omega), Option.bind_some, if_neg hz2, q3 k (by omega), Option.bind_some]
      by_cases hz3 : q < 0
      · rw [if_pos hz3]; exact congrArg some (by omega)
      · rw [if_neg hz3]
theorem tofd_run (l : List S109) (hl : (l.length : Int) ≤ 1048576) : ∀ (d i : Nat) (x : List S79), l.length - i = d → i ≤ l.length → x.length = l.length → ∃ r : List S79, r.length = l.length ∧ ∀ k, d + 1 ≤ k → laws_toFieldDescS.l0 k l x (i : Int) = some r := by
  intro d
  induction d with
  | zero =>
    intro i x hd hi hx
    refine ⟨x, hx, fun k hk => ?_⟩
    obtain ⟨k, rfl⟩ : ∃ m, k = m + 1 := ⟨k - 1, by omega⟩
    simp only [laws_toFieldDescS.l0]
    rw [if_neg (by omega)]
  | succ d ih =>
    intro i x hd hi hx
    obtain ⟨r, r1, r2⟩ := ih (i + 1) (x.set i (⟨(rd_T109 l (i : Int)).f0, (rd_T109 l (i : Int)).f1, (rd_T109 l (i : Int)).f2, (rd_T109 l (i : Int)).f3, (rd_T109 l (i : Int)).f4, (rd_T109 l (i : Int)).f5⟩ : S79)) (by omega) (by omega) (by rw [List.length_set]; exact hx)
    refine ⟨r, r1, fun k hk => ?_⟩
    obtain ⟨k, rfl⟩ : ∃ m, k = m + 1 := ⟨k - 1, by omega⟩
    simp only [laws_toFieldDescS.l0, laws_toFieldDesc.f, Option.bind_some]
    rw [if_pos (by omega), if_pos (by omega), if_pos (by omega), w64 (by omega) (by omega), show (i : Int) + 1 = ((i + 1 : Nat) : Int) by omega, Int.toNat_natCast]
    exact r2 k (by omega)
theorem tofd (l : List S109) (hl : (l.length : Int) ≤ 1048576) : ∃ r : List S79, r.length = l.length ∧ ∀ k, l.length + 1 ≤ k → laws_toFieldDescS.f k l = some r := by
  obtain ⟨r, r1, r2⟩ := tofd_run l hl l.length 0 (List.replicate l.length z79) (by omega) (by omega) (by rw [List.length_replicate])
  refine ⟨r, r1, fun k hk => ?_⟩
  unfold laws_toFieldDescS.f
  rw [Int.toNat_natCast, if_pos (by omega), if_pos (by omega)]
  exact r2 k (by omega)
theorem tos_run (l : List ByteArray) (hl : (l.length : Int) ≤ 1048576) : ∀ (d i : Nat) (x : List ByteArray), l.length - i = d → i ≤ l.length → x.length = l.length → ∃ r : List ByteArray, r.length = l.length ∧ ∀ k, d + 1 ≤ k → laws_toStringS.l0 k l x (i : Int) = some r := by
  intro d
  induction d with
  | zero =>
    intro i x hd hi hx
    refine ⟨x, hx, fun k hk => ?_⟩
    obtain ⟨k, rfl⟩ : ∃ m, k = m + 1 := ⟨k - 1, by omega⟩
    simp only [laws_toStringS.l0]
    rw [if_neg (by omega)]
  | succ d ih =>
    intro i x hd hi hx
    obtain ⟨r, r1, r2⟩ := ih (i + 1) (x.set i (rdOf ByteArray.empty l (i : Int))) (by omega) (by omega) (by rw [List.length_set]; exact hx)
    refine ⟨r, r1, fun k hk => ?_⟩
    obtain ⟨k, rfl⟩ : ∃ m, k = m + 1 := ⟨k - 1, by omega⟩
    simp only [laws_toStringS.l0]
    rw [if_pos (by omega), if_pos (by omega), if_pos (by omega), w64 (by omega) (by omega), show (i : Int) + 1 = ((i + 1 : Nat) : Int) by omega, Int.toNat_natCast]
    exact r2 k (by omega)
theorem tos (l : List ByteArray) (hl : (l.length : Int) ≤ 1048576) : ∃ r : List ByteArray, r.length = l.length ∧ ∀ k, l.length + 1 ≤ k → laws_toStringS.f k l = some r := by
  obtain ⟨r, r1, r2⟩ := tos_run l hl l.length 0 (List.replicate l.length (⟨#[]⟩ : ByteArray)) (by omega) (by omega) (by rw [List.length_replicate])
  refine ⟨r, r1, fun k hk => ?_⟩
  unfold laws_toStringS.f
  rw [Int.toNat_natCast, if_pos (by omega), if_pos (by omega)]
  exact r2 k (by omega)
theorem tod (a : ByteArray) (l : List S109) (o : List ByteArray) (hl : (l.length : Int) ≤ 1048576) (ho : (o.length : Int) ≤ 1048576) : ∃ (r : List S79) (q : List ByteArray), r.length = l.length ∧ q.length = o.length ∧ ∀ k, l.length + o.length + 1 ≤ k → laws_toDesc.f k a l o = some (a, r, q) := by
  obtain ⟨r, r1, r2⟩ := tofd l hl
  obtain ⟨q, q1, q2⟩ := tos o ho
  refine ⟨r, q, r1, q1, fun k hk => ?_⟩
  unfold laws_toDesc.f
  rw [r2 k (by omega), Option.bind_some, q2 k (by omega), Option.bind_some]
theorem eqfd_self (l : List S79) (hl : (l.length : Int) ≤ 1048576) : ∀ (d i : Nat), l.length - i = d → i ≤ l.length → ∀ k, d + 1 ≤ k → laws_eqFieldDescS.l0 k l l (i : Int) = some true := by
  intro d
  induction d with
  | zero =>
    intro i hd hi k hk
    obtain ⟨k, rfl⟩ : ∃ m, k = m + 1 := ⟨k - 1, by omega⟩
    simp only [laws_eqFieldDescS.l0]
    rw [if_neg (by omega)]
  | succ d ih =>
    intro i hd hi k hk
    obtain ⟨k, rfl⟩ : ∃ m, k = m + 1 := ⟨k - 1, by omega⟩
    simp only [laws_eqFieldDescS.l0, laws_eqFieldDesc.f, if_true, bne_self_eq_false, Bool.false_eq_true, if_false, Option.bind_some]
    rw [if_pos (show (i : Int) < (l.length : Int) by omega), if_pos (show (0 : Int) ≤ (i : Int) by omega), if_pos (show (i : Int) < (l.length : Int) by omega), w64 (by omega) (by omega), show (i : Int) + 1 = ((i + 1 : Nat) : Int) by omega]
    exact ih (i + 1) (by omega) (by omega) k (by omega)
theorem eqs_self (l : List ByteArray) (hl : (l.length : Int) ≤ 1048576) : ∀ (d i : Nat), l.length - i = d → i ≤ l.length → ∀ k, d + 1 ≤ k → laws_eqStringS.l0 k l l (i : Int) = some true := by
  intro d
  induction d with
  | zero =>
    intro i hd hi k hk
    obtain ⟨k, rfl⟩ : ∃ m, k = m + 1 := ⟨k - 1, by omega⟩
    simp only [laws_eqStringS.l0]
    rw [if_neg (by omega)]
  | succ d ih =>
    intro i hd hi k hk
    obtain ⟨k, rfl⟩ : ∃ m, k = m + 1 := ⟨k - 1, by omega⟩
    simp only [laws_eqStringS.l0, if_true]
    rw [if_pos (show (i : Int) < (l.length : Int) by omega), if_pos (show (0 : Int) ≤ (i : Int) by omega), if_pos (show (i : Int) < (l.length : Int) by omega), w64 (by omega) (by omega), show (i : Int) + 1 = ((i + 1 : Nat) : Int) by omega]
    exact ih (i + 1) (by omega) (by omega) k (by omega)
theorem eqd_self (a : ByteArray) (l : List S79) (o : List ByteArray) (hl : (l.length : Int) ≤ 1048576) (ho : (o.length : Int) ≤ 1048576) (k : Nat) (hk : l.length + o.length + 1 ≤ k) : laws_eqDesc.f k a l o a l o = some true := by
  unfold laws_eqDesc.f laws_eqFieldDescS.f laws_eqStringS.f
  rw [if_pos rfl, if_pos rfl, if_pos rfl]
  have h1 := eqfd_self l hl l.length 0 (by omega) (by omega) k (by omega)
  have h2 := eqs_self o ho o.length 0 (by omega) (by omega) k (by omega)
  rw [show ((0 : Nat) : Int) = 0 from rfl] at h1 h2
  rw [h1, Option.bind_some, if_pos rfl, h2, Option.bind_some, if_pos rfl]

theorem fa_run (x : ByteArray) (l : List S79) (o : List ByteArray) (n : ByteArray) (hl : (l.length : Int) ≤ 1048576) : ∀ (d i : Nat), l.length - i = d → i ≤ l.length → ∃ r : Int, ∀ k, d + 1 ≤ k → spec_FieldNamed.l0 k n (i : Int) x l o = some r ∧ impl_FieldDesc__impl_FieldNamed_1.l0 k l (l.length : Int) (i : Int) n = some (r, n) := by
  intro d
  induction d with
  | zero =>
    intro i hd hi
    refine ⟨-1, fun k hk => ?_⟩
    obtain ⟨k, rfl⟩ : ∃ m, k = m + 1 := ⟨k - 1, by omega⟩
    simp only [spec_FieldNamed.l0, impl_FieldDesc__impl_FieldNamed_1.l0]
    rw [if_neg (by omega), if_neg (by omega)]
    exact ⟨rfl, rfl⟩
  | succ d ih =>
    intro i hd hi
    have q1 : (i : Int) < (l.length : Int) := by omega
    have q0 : (0 : Int) ≤ (i : Int) := by omega
    by_cases hg : (rd_T79 l (i : Int)).f0.toList = n.toList
    · refine ⟨(i : Int), fun k hk => ?_⟩
      obtain ⟨k, rfl⟩ : ∃ m, k = m + 1 := ⟨k - 1, by omega⟩
      simp only [spec_FieldNamed.l0, impl_FieldDesc__impl_FieldNamed_1.l0, impl_FieldNamed_1.f, Option.bind_some]
      rw [if_pos q1, if_pos q0, if_pos hg, if_pos q1, if_pos q0, if_pos q1, if_pos (beq_iff_eq.mpr hg)]
      exact ⟨rfl, rfl⟩
    · obtain ⟨r, hr⟩ := ih (i + 1) (by omega) (by omega)
      refine ⟨r, fun k hk => ?_⟩
      obtain ⟨k, rfl⟩ : ∃ m, k = m + 1 := ⟨k - 1, by omega⟩
      simp only [spec_FieldNamed.l0, impl_FieldDesc__impl_FieldNamed_1.l0, impl_FieldNamed_1.f, Option.bind_some]
      rw [if_pos q1, if_pos q0, if_neg hg, if_pos q1, if_pos q0, if_pos q1, if_neg (fun e => hg (beq_iff_eq.mp e)), w64 (by omega) (by omega), show (i : Int) + 1 = ((i + 1 : Nat) : Int) by omega]
      exact hr k (by omega)
theorem FnExactFieldNamed : RFnExactFieldNamed.Pure := by
  intro a l o n ha hl ho hn
  obtain ⟨r, r1, r2⟩ := szd a l o ha hl.1 (fun x hx => (hl.2 x hx).1) ho.1 ho.2
  refine ⟨l.length + o.length + 1, ?_⟩
  unfold laws_FnExactFieldNamed.f
  by_cases hn2 : (n.size : Int) > 1048576
  · rw [if_pos hn2]
  rw [if_neg hn2, r2 _ (Nat.le_refl _), Option.bind_some]
  by_cases hz : r < 0
  · rw [if_pos hz]
  obtain ⟨l1, l2⟩ := r1 (by omega)
  obtain ⟨F, q, f1, f2, f3⟩ := tod a l o l1 l2
  obtain ⟨p, hp⟩ := fa_run a F q n (by omega) F.length 0 (by omega) (by omega)
  obtain ⟨p1, p2⟩ := hp (l.length + o.length + 1) (by omega)
  rw [if_neg hz, f3 _ (Nat.le_refl _)]
  simp only [Option.bind_some, spec_FieldNamed.f, impl_FieldNamed.f, impl_FieldDesc__impl_FieldNamed_1.f]
  rw [show ((0 : Nat) : Int) = 0 from rfl] at p1 p2
  rw [p1, Option.bind_some, p2]
  simp only [Option.bind_some, if_true]
  rw [eqd_self a F q (by omega) (by omega) _ (by omega), Option.bind_some, if_pos rfl]

end Go.Proofs.Ytnchbgiojdijbaa.Pure
