/- Contracts of functions of the given program, shown on the evaluator; each states its own conditions. -/
import Derived.Test.YtfhpkcdkinnnmaaDoorF2
open Go Ev
open Go.Proofs
set_option maxRecDepth 100000
set_option maxHeartbeats 4000000
set_option linter.unusedVariables false
namespace Ev
theorem isT_stuck {T : List Tok} {s : ByteArray} {σ : Ps} (h : σ.code ≠ 0) : isT T s σ = false := by
  unfold isT
  rw [show (σ.code == 0) = false by simpa using h]; rfl
theorem fails_stuck {T : List Tok} {c : Int} {σ : Ps} (h : σ.code ≠ 0) : fails T c σ = σ := by
  unfold fails
  rw [show (σ.code == 0) = false by simpa using h]; rfl
theorem want_stuck {T : List Tok} {s : ByteArray} {σ : Ps} (h : σ.code ≠ 0) : want T s σ = σ := by
  unfold want
  rw [isT_stuck h, fails_stuck h]; rfl
theorem kindT_stuck {T : List Tok} {k : Int} {σ : Ps} (h : σ.code ≠ 0) : kindT T k σ = false := by
  unfold kindT
  rw [show (σ.code == 0) = false by simpa using h]; rfl
theorem take_stuck {T : List Tok} {k : Int} {σ : Ps} (h : σ.code ≠ 0) : takeS T k σ = σ := by
  unfold takeS
  rw [kindT_stuck h, fails_stuck h]; rfl
theorem name_stuck {T : List Tok} {σ : Ps} (h : σ.code ≠ 0) : nameT T σ = .empty := by
  unfold nameT
  rw [kindT_stuck h]; rfl
theorem fails_code {T : List Tok} {c : Int} {σ : Ps} (hc : c ≠ 0) : (fails T c σ).code ≠ 0 := by
  unfold fails
  cases h : σ.code == 0 with
  | true => exact hc
  | false => simpa [pick] using h
def msgSt (k : Nat) (p0 : Int) (n0 : ByteArray) (T : List Tok) (x : Message × Ps) : St := ⟨[(0, .ptr 0 [] 0 0), (1, .sc (.int .i64 k)), (4, .ptr 1 [] 0 0), (5, .ptr 2 [] 0 0)], [(1, some ⟨[(⟨.empty, [], [], [], [], [], 0⟩ : Message).ocells], true, 7, true⟩), (2, some ⟨[x.1.ocells], true, 7, true⟩), (0, some (psOb T x.2))], 3, 98, 1⟩
theorem msgSt_eq (k : Nat) (p0 : Int) (n0 : ByteArray) (T : List Tok) (name : ByteArray) (fields : List Field) (oneofs : List ByteArray) (reserved : List Int) (messages : List Message) (enums : List Enum) (pos : Int) (σ : Ps) : msgSt k p0 n0 T (⟨name, fields, oneofs, reserved, messages, enums, pos⟩, σ) = ⟨[(0, .ptr 0 [] 0 0), (1, .sc (.int .i64 k)), (4, .ptr 1 [] 0 0), (5, .ptr 2 [] 0 0)], [(1, some ⟨[[.sc (.string .empty), .own true 6 [], .own true 1 [], .own true 1 [], .own true 7 [], .own true 3 [], .sc (.int .i64 0)]], true, 7, true⟩), (2, some ⟨[[.sc (.string name), .own true 6 (Field.css fields), .own true 1 (strC oneofs), .own true 1 (intC reserved), .own true 7 (Message.css messages), .own true 3 (Enum.css enums), .sc (.int .i64 pos)]], true, 7, true⟩), (0, some ⟨[[.own true 4 (Tok.css T), .sc (.int .i64 σ.at'), .sc (.int .i64 σ.code), .sc (.int .i64 σ.pos)]], true, 4, true⟩)], 3, 98, 1⟩ := rfl
def oneC2 : V → Bool
  | .sc x => x.oneCell'
  | .sl _ _ => true
  | .own _ _ _ => true
  | _ => false
theorem one_row2 {d : Bool} {row : List V} (h : row.all oneC2 = true) : OneEs d true [row] := fun e he v hv => by
  obtain rfl := List.mem_singleton.1 he
  have := List.all_eq_true.1 h v hv
  cases v with
  | sc x => exact this
  | sl n es => exact Or.inl rfl
  | own d n es => rfl
  | _ => cases this
theorem last_get (l : List (List V)) (x : List V) : (l ++ [x])[((l.length : Nat) : Int).toNat]? = some x := by
  rw [Int.toNat_natCast, List.getElem?_append_right (Nat.le_refl _), Nat.sub_self]; rfl
theorem last_set (l : List (List V)) (x y : List V) : (l ++ [x]).set ((l.length : Nat) : Int).toNat y = l ++ [y] := by
  rw [Int.toNat_natCast, List.set_append_right (h := Nat.le_refl _), Nat.sub_self]; rfl
def zrow : List V := [.sc (.string .empty), .sl 6 [], .sl 1 [], .sl 1 [], .sl 7 [], .sl 3 [], .sc (.int .i64 0)]
theorem canonK_at {l : List Nat} {t S0 : St} {K : St → Prop} (h : canonK l t fun u => u = S0) (k : K S0) : canonK l t K := by
  rw [canonK_eq] at h ⊢
  rw [h]; exact k
end Ev
open Go Ev
open Go.Proofs
set_option maxRecDepth 100000
set_option maxHeartbeats 4000000
set_option linter.unusedVariables false
namespace Ev
def Signs (s : ByteArray) : Prop := s = ⟨#[123]⟩ ∨ s = ⟨#[125]⟩ ∨ s = ⟨#[61]⟩ ∨ s = ⟨#[59]⟩ ∨ s = ⟨#[44]⟩ ∨ s = ⟨#[46]⟩ ∨ s = ⟨#[45]⟩
def signT (T : List Tok) (s : ByteArray) (σ : Ps) : Bool := (now T σ).kind == 3 && sameT (now T σ).text s
def wordT (T : List Tok) (s : ByteArray) (σ : Ps) : Bool := (now T σ).kind == 1 && sameT (now T σ).text s
theorem sign_is {T : List Tok} (hT : Toks T) {σ : Ps} (h : σ.In T) {s : ByteArray} (hs : Signs s) (hc : (σ.code == 0) = true) : signT T s σ = isT T s σ := by
  have hw := hT.word _ (now_mem h)
  unfold signT isT
  rw [hc, Bool.true_and, sameT_eq]
  by_cases h1 : (now T σ).kind = 1
  · have h2 := (hw h1).2 s hs
    rw [decide_eq_false h2, Bool.and_false, Bool.and_false]
  · rw [show ((now T σ).kind == 1) = false by simpa using h1, Bool.or_false]
theorem word_is {T : List Tok} (hT : Toks T) {σ : Ps} (h : σ.In T) {s : ByteArray} (hs : s.size ≠ 1) (hc : (σ.code == 0) = true) : wordT T s σ = isT T s σ := by
  have hw := hT.sign _ (now_mem h)
  unfold wordT isT
  rw [hc, Bool.true_and, sameT_eq]
  by_cases h1 : (now T σ).kind = 3
  · have h2 := hw h1
    have h3 : ¬ (now T σ).text = s := fun e => hs (by rw [← e]; exact h2)
    rw [decide_eq_false h3, Bool.and_false, Bool.and_false]
  · rw [show ((now T σ).kind == 3) = false by simpa using h1, Bool.false_or]
theorem implNow {T : List Tok} {σ : Ps} (h : σ.In T) : Fn Tryd.prog [] 33 [.shp (psRow T σ)] [] (ret [.agg (now T σ).cs] []) := by
  have hg := now_get h
  generalize now T σ = t at *
  obtain ⟨i, c, p⟩ := σ
  refine fn_of Tryd.func33 (by kernel_rfl) ?_
  conv => whnf
  refine optP_of (hg) ?_
  conv => whnf
  exact ⟨rfl, rfl⟩
theorem implSignB {T : List Tok} {σ : Ps} (h : σ.In T) (s : ByteArray) : Fn Tryd.prog [] 61 [.shp (psRow T σ), .sc (.string s)] [] (ret [.sc (.bool (signT T s σ))] []) := by
  have hN := implNow h
  have hr : signT T s σ = ((now T σ).kind == 3 && sameT (now T σ).text s) := rfl
  generalize signT T s σ = R at *
  generalize now T σ = t at *
  obtain ⟨i, c, p⟩ := σ
  refine fn_of Tryd.func61 (by kernel_rfl) ?_
  conv => whnf
  repeat' (first
    | (refine Fn.use (hN) ?_; (conv => whnf); (first | refine ⟨trivial, ?_⟩ | refine ⟨⟨rfl, clr_of rfl⟩, ?_⟩); (conv => whnf))
    | (refine chkP_of ?hchk ?_; (case hchk => simp; done); (conv => whnf))
    | (refine ifP_of (fun _ => ?_) (fun _ => ?_) <;> (conv => whnf)))
  all_goals exact ⟨bl (by rw [hr]; clear hN hr; simp_all [sameT]), rfl⟩
theorem implWordB {T : List Tok} {σ : Ps} (h : σ.In T) (s : ByteArray) : Fn Tryd.prog [] 34 [.shp (psRow T σ), .sc (.string s)] [] (ret [.sc (.bool (wordT T s σ))] []) := by
  have hN := implNow h
  have hr : wordT T s σ = ((now T σ).kind == 1 && sameT (now T σ).text s) := rfl
  generalize wordT T s σ = R at *
  generalize now T σ = t at *
  obtain ⟨i, c, p⟩ := σ
  refine fn_of Tryd.func34 (by kernel_rfl) ?_
  conv => whnf
  repeat' (first
    | (refine Fn.use (hN) ?_; (conv => whnf); (first | refine ⟨trivial, ?_⟩ | refine ⟨⟨rfl, clr_of rfl⟩, ?_⟩); (conv => whnf))
    | (refine chkP_of ?hchk ?_; (case hchk => simp; done); (conv => whnf))
    | (refine ifP_of (fun _ => ?_) (fun _ => ?_) <;> (conv => whnf)))
  all_goals exact ⟨bl (by rw [hr]; clear hN hr; simp_all [sameT]), rfl⟩
theorem implFails {T : List Tok} {σ : Ps} (h : σ.In T) (k : Int) : Fn Tryd.prog [] 37 [.ptr 0 [] 0 0, .sc (.int .i64 k)] [psOb T σ] (ret [] [psOb T (fails T k σ)]) := by
  have hN := implNow h
  have hr : fails T k σ = pick (σ.code == 0) ⟨σ.at', k, (now T σ).pos⟩ σ := rfl
  generalize fails T k σ = R at *
  generalize now T σ = t at *
  obtain ⟨i, c, p⟩ := σ
  dsimp only at hr
  refine fn_of Tryd.func37 (by kernel_rfl) ?_
  conv => whnf
  refine ifP_of (fun h1 => ?_) (fun h1 => ?_)
  · rw [h1] at hr
    subst hr
    conv => whnf
    refine Fn.use (hN) ?_
    conv => whnf
    first | refine ⟨trivial, ?_⟩ | refine ⟨⟨rfl, clr_of rfl⟩, ?_⟩
    conv => whnf
    exact ⟨rfl, rfl⟩
  · rw [h1] at hr
    subst hr
    conv => whnf
    exact ⟨rfl, rfl⟩
def zeroTok : Tok := ⟨0, .empty, 0, 0⟩
theorem implTake {T : List Tok} (hT : Toks T) {σ : Ps} (h : σ.In T) (k : Int) : Fn Tryd.prog [] 65 [.ptr 0 [] 0 0, .sc (.int .i64 k)] [psOb T σ] (ret [.agg (pick (kindT T k σ) (now T σ) zeroTok).cs] [psOb T (takeS T k σ)]) := by
  have hN := implNow h
  have hF := implFails h 15
  have hr : takeS T k σ = pick (kindT T k σ) σ.adv (fails T 15 σ) := rfl
  have hv : kindT T k σ = (σ.code == 0 && (now T σ).kind == k) := rfl
  generalize takeS T k σ = R at *
  generalize fails T 15 σ = σf at *
  generalize kindT T k σ = b at *
  generalize now T σ = t at *
  have hw := wadd h hT.len
  obtain ⟨i, c, p⟩ := σ
  dsimp only at hr hv hw
  generalize hk : (t.kind == k) = k1 at *
  generalize hc : (c == 0) = c1 at *
  have hk2 : (t.kind != k) = !k1 := by rw [← hk]; rfl
  have hc2 : (c != 0) = !c1 := by rw [← hc]; rfl
  refine fn_of Tryd.func65 (by kernel_rfl) ?_
  conv => whnf
  repeat' (first
    | (refine Fn.use (hN) ?_; (conv => whnf); (first | refine ⟨trivial, ?_⟩ | refine ⟨⟨rfl, clr_of rfl⟩, ?_⟩); (conv => whnf))
    | (refine Fn.use (hF) ?_; (conv => whnf); (first | refine ⟨trivial, ?_⟩ | refine ⟨⟨rfl, clr_of rfl⟩, ?_⟩); (conv => whnf))
    | (refine chkP_of ?hchk ?_; (case hchk => simp; done); (conv => whnf))
    | (refine ifP_of (fun _ => ?_) (fun _ => ?_) <;> (conv => whnf)))
  all_goals first
    | (have e : b = true := by clear hN hF hr; simp_all
       subst e hr
       exact ⟨rfl, by rw [hw]; rfl⟩)
    | (have e : b = false := by clear hN hF hr; simp_all
       subst e hr
       exact ⟨rfl, rfl⟩)
theorem implName {T : List Tok} (hT : Toks T) {σ : Ps} (h : σ.In T) : Fn Tryd.prog [] 59 [.ptr 0 [] 0 0] [psOb T σ] (ret [.sc (.string (nameT T σ))] [psOb T (takeS T 1 σ)]) := by
  have hN := implTake hT h 1
  have hv : nameT T σ = pick (kindT T 1 σ) (now T σ).text .empty := rfl
  generalize takeS T 1 σ = R at *
  generalize nameT T σ = v at *
  generalize kindT T 1 σ = b at *
  generalize now T σ = t at *
  have hz : (pick b t zeroTok).text = pick b t.text .empty := by cases b <;> rfl
  rw [← hz] at hv
  subst hv
  refine fn_of Tryd.func59 (by kernel_rfl) ?_
  conv => whnf
  refine Fn.use (hN) ?_
  conv => whnf
  first | refine ⟨trivial, ?_⟩ | refine ⟨⟨rfl, clr_of rfl⟩, ?_⟩
  conv => whnf
  exact ⟨rfl, rfl⟩
theorem implSign {T : List Tok} (hT : Toks T) {σ : Ps} (h : σ.In T) {s : ByteArray} (hs : Signs s) : Fn Tryd.prog [] 60 [.ptr 0 [] 0 0, .sc (.string s)] [psOb T σ] (ret [] [psOb T (want T s σ)]) := by
  have hB := implSignB h s
  have hF := implFails h 15
  have hin : (fails T 15 σ).In T := In.fails h
  have hT1 := implTake hT h 3
  have hT2 := implTake hT hin 3
  have hcode := fails_code (T := T) (c := 15) (σ := σ) (by decide)
  rw [take_stuck hcode] at hT2
  generalize pick (kindT T 3 (fails T 15 σ)) (now T (fails T 15 σ)) zeroTok = g2 at *
  generalize pick (kindT T 3 σ) (now T σ) zeroTok = g1 at *
  have e1 : signT T s σ = true → takeS T 3 σ = want T s σ := fun e => by
    cases hc : σ.code == 0 with
    | true =>
      have h1 := sign_is hT h hs hc
      rw [e] at h1
      unfold want takeS
      have : kindT T 3 σ = true := by
        unfold signT at e
        unfold kindT
        rw [hc]
        simp only [Bool.and_eq_true] at e
        exact e.1
      rw [this, ← h1]
    | false =>
      have hc' : σ.code ≠ 0 := by simpa using hc
      rw [take_stuck hc', want_stuck hc']
  have e2 : signT T s σ = false → fails T 15 σ = want T s σ := fun e => by
    cases hc : σ.code == 0 with
    | true =>
      have h1 := sign_is hT h hs hc
      rw [e] at h1
      unfold want
      rw [← h1]; rfl
    | false =>
      have hc' : σ.code ≠ 0 := by simpa using hc
      rw [fails_stuck hc', want_stuck hc']
  generalize want T s σ = R at *
  generalize signT T s σ = b at *
  refine fn_of Tryd.func60 (by kernel_rfl) ?_
  conv => whnf
  refine Fn.use (hB) ?_
  conv => whnf
  first | refine ⟨trivial, ?_⟩ | refine ⟨⟨rfl, clr_of rfl⟩, ?_⟩
  conv => whnf
  refine ifP_of (fun h1 => ?_) (fun h1 => ?_)
  · have h1 : b = false := by simpa using h1
    rw [e2 h1] at hF hT2
    conv => whnf
    refine Fn.use (hF) ?_
    conv => whnf
    first | refine ⟨trivial, ?_⟩ | refine ⟨⟨rfl, clr_of rfl⟩, ?_⟩
    conv => whnf
    refine Fn.use (hT2) ?_
    conv => whnf
    first | refine ⟨trivial, ?_⟩ | refine ⟨⟨rfl, clr_of rfl⟩, ?_⟩
    conv => whnf
    exact ⟨rfl, rfl⟩
  · have h1 : b = true := by simpa using h1
    rw [e1 h1] at hT1
    conv => whnf
    refine Fn.use (hT1) ?_
    conv => whnf
    first | refine ⟨trivial, ?_⟩ | refine ⟨⟨rfl, clr_of rfl⟩, ?_⟩
    conv => whnf
    exact ⟨rfl, rfl⟩
end Ev
open Go Ev
open Go.Proofs
set_option maxRecDepth 100000
set_option maxHeartbeats 4000000
set_option linter.unusedVariables false
namespace Ev
theorem app_assoc (a b c : ByteArray) : a ++ (b ++ c) = a ++ b ++ c := (ByteArray.append_assoc).symm
theorem isT_want {T : List Tok} {s : ByteArray} {σ : Ps} (h : isT T s σ = true) : want T s σ = σ.adv := by unfold want; rw [h]; rfl
theorem isT_has {T : List Tok} {s : ByteArray} {σ : Ps} (h : isT T s σ = true) : hasS T s σ = σ.adv := by unfold hasS; rw [h]; rfl
theorem isT_no {T : List Tok} {s : ByteArray} {σ : Ps} (h : isT T s σ = false) : hasS T s σ = σ := by unfold hasS; rw [h]; rfl
theorem more_no {T : List Tok} {σ : Ps} (h : moreC T σ = false) : want T rbr σ = hasS T rbr σ := by
  unfold moreC at h
  cases hc : σ.code == 0 with
  | true =>
    rw [hc] at h
    have h : isT T rbr σ = true := by simpa using h
    rw [isT_want h, isT_has h]
  | false =>
    have hc : σ.code ≠ 0 := by simpa using hc
    rw [want_stuck hc, isT_no (isT_stuck hc)]
theorem word_take {T : List Tok} (hT : Toks T) {σ : Ps} {s : ByteArray} (hs : s.size ≠ 1) (h : isT T s σ = true) : takeS T 1 σ = σ.adv := by
  have h1 := isT_kind h
  have h2 := hT.sign _ (now_mem (isT_in h))
  have h3 : (now T σ).kind = 1 := by
    rcases h1.2.1 with h3 | h3
    · have := h2 h3
      rw [h1.2.2] at this
      exact absurd this hs
    · exact h3
  have : kindT T 1 σ = true := by
    unfold kindT
    rw [h1.1, h3]; rfl
  unfold takeS
  rw [this]; rfl
theorem implType {T : List Tok} (hT : Toks T) {σ : Ps} (h : σ.In T) : Fn Tryd.prog [] 89 [.ptr 0 [] 0 0] [psOb T σ] (ret [.sc (.string (typP T σ).1)] [psOb T (typP T σ).2]) := by
  have hN := implName hT h
  have hin : (takeS T 1 σ).In T := In.take hT h (by decide)
  have ha := take_at hT h
  have hr : typP T σ = iter (typC T) (typF T) (muP T (takeS T 1 σ)) (nameT T σ, takeS T 1 σ) := rfl
  generalize typP T σ = R at *
  generalize nameT T σ = n0 at *
  generalize takeS T 1 σ = σ1 at *
  refine fn_of Tryd.func89 (by kernel_rfl) ?_
  conv => whnf
  refine Fn.use (hN) ?_
  conv => whnf
  first | refine ⟨trivial, ?_⟩ | refine ⟨⟨rfl, clr_of rfl⟩, ?_⟩
  conv => whnf
  refine loop_of (A := ByteArray × Ps) (fun x => ⟨[(0, .ptr 0 [] 0 0), (3, .sc (.string x.1))], [(0, some (psOb T x.2))], 1, 24, 1⟩) (fun x => muP T x.2) (fun x => x.2.In T ∧ x.1.size ≤ 21 * x.2.at' ∧ iter (typC T) (typF T) (muP T x.2) x = R) (n0, σ1) rfl ⟨hin, by dsimp only; omega, hr.symm⟩ ?_
  clear hr ha hin hN h
  intro ⟨s, σ⟩ ⟨h, hs, hr⟩ X ih
  dsimp only at h hs hr
  have hc : typC T (s, σ) = isT T dotB σ := rfl
  have hB := implSignB h dotB
  have hno : isT T dotB σ = false → R = (s, σ) := fun e => by rw [← hr]; exact iter_no (hc.trans e)
  conv => whnf
  refine ifP_of (fun h1 => ?_) (fun h1 => ?_)
  rotate_left
  · have h1 : (σ.code == 0) = false := h1
    rw [hno (isT_stuck (by simpa using h1))]
    conv => whnf
    exact ⟨rfl, rfl⟩
  have h1 : (σ.code == 0) = true := h1
  rw [sign_is hT h (s := dotB) (by unfold Signs dotB; simp) h1] at hB
  conv => whnf
  refine Fn.use (hB) ?_
  conv => whnf
  first | refine ⟨trivial, ?_⟩ | refine ⟨⟨rfl, clr_of rfl⟩, ?_⟩
  conv => whnf
  refine ifP_of (fun h2 => ?_) (fun h2 => ?_)
  rotate_left
  · have h2 : isT T dotB σ = false := h2
    rw [hno h2]
    conv => whnf
    exact ⟨rfl, rfl⟩
  have h2 : isT T dotB σ = true := h2
  rw [h2] at hc
  rw [iter_yes (mu := fun x : ByteArray × Ps => muP T x.2) (typF_lt T) hc] at hr
  have hlt := typF_lt T (s, σ) hc
  have hW := implSign hT h (s := dotB) (by unfold Signs dotB; simp)
  rw [isT_want h2] at hW
  have hi := adv_in hT h2
  have hN := implName hT hi
  have ha := take_at hT hi
  have hi2 : (takeS T 1 σ.adv).In T := In.take hT hi (by decide)
  have hf : typF T (s, σ) = (s ++ dotB ++ nameT T σ.adv, takeS T 1 σ.adv) := rfl
  have hadv : σ.adv.at' = σ.at' + 1 := rfl
  have hb : σ.at' < T.length := h
  have hb2 := hT.len
  have hsz : dotB.size = 1 := rfl
  rw [hf] at hr hlt
  generalize nameT T σ.adv = n at *
  generalize takeS T 1 σ.adv = σ2 at *
  have hb3 : σ2.at' < T.length := hi2
  conv => whnf
  refine Fn.use (hW) ?_
  conv => whnf
  first | refine ⟨trivial, ?_⟩ | refine ⟨⟨rfl, clr_of rfl⟩, ?_⟩
  conv => whnf
  refine Fn.use (hN) ?_
  conv => whnf
  first | refine ⟨trivial, ?_⟩ | refine ⟨⟨rfl, clr_of rfl⟩, ?_⟩
  conv => whnf
  refine chkP_of ?hchk ?_
  case hchk => first | exact decide_eq_true (by omega) | (simp; done) | (simp; omega) | exact decide_eq_true (show dotB.size + n.size ≤ 9223372036854775807 by omega)
  conv => whnf
  refine chkP_of ?hchk ?_
  case hchk => first | exact decide_eq_true (by omega) | (simp; done) | (simp; omega) | exact decide_eq_true (show s.size + (dotB ++ n).size ≤ 9223372036854775807 by rw [size_app]; omega)
  conv => whnf
  have h5 := ih (s ++ dotB ++ n, σ2) ⟨hi2, by dsimp only; rw [size_app, size_app]; omega, hr⟩ hlt
  rw [← app_assoc] at h5
  exact h5
theorem implFldTail {T : List Tok} (hT : Toks T) {σ : Ps} (h : σ.In T) (one : ByteArray) (ho : one.size ≠ 0) : Fn Tryd.prog [] 64 [.ptr 0 [] 0 0, .sc (.string one)] [psOb T σ] (ret [.agg (tailP T false one (now T σ).pos σ).1.ocells] [psOb T (tailP T false one (now T σ).pos σ).2]) := by
  have h1 := typ_in hT h
  have h2 := In.take hT (k := 1) h1 (by decide)
  have h3 := In.want hT h2 eqs
  have h4 := In.take hT (k := 2) h3 (by decide)
  have H0 := implNow h
  have H1 := implType hT h
  have H2 := implName hT h1
  have H3 := implSign hT h2 (s := eqs) (by unfold Signs eqs; simp)
  have H4 := implTake hT h3 2
  have H5 := implSign hT h4 (s := semi) (by unfold Signs semi; simp)
  have hr : tailP T false one (now T σ).pos σ = (⟨nameT T (typP T σ).2, (typP T σ).1, intT T (want T eqs (takeS T 1 (typP T σ).2)), false, one, (now T σ).pos⟩, want T semi (takeS T 2 (want T eqs (takeS T 1 (typP T σ).2)))) := rfl
  rw [hr]
  clear hr
  generalize typP T σ = R1 at *
  obtain ⟨s1, σ1⟩ := R1
  dsimp only at *
  generalize nameT T σ1 = s2 at *
  generalize takeS T 1 σ1 = σ2 at *
  generalize want T eqs σ2 = σ3 at *
  have hn : intT T σ3 = (pick (kindT T 2 σ3) (now T σ3) zeroTok).num := by unfold intT; cases kindT T 2 σ3 <;> rfl
  rw [hn]
  clear hn
  generalize pick (kindT T 2 σ3) (now T σ3) zeroTok = tk at *
  generalize takeS T 2 σ3 = σ4 at *
  generalize want T semi σ4 = σ5 at *
  generalize now T σ = t0 at *
  have hne : (one.toList == (⟨#[]⟩ : ByteArray).toList) = false := by
    rw [bytes_eq]
    exact decide_eq_false (fun e => ho (by rw [e]; rfl))
  refine fn_of Tryd.func64 (by kernel_rfl) ?_
  conv => whnf
  refine Fn.use (H0) ?_
  conv => whnf
  first | refine ⟨trivial, ?_⟩ | refine ⟨⟨rfl, clr_of rfl⟩, ?_⟩
  conv => whnf
  refine ifP_of (fun hq => ?_) (fun hq => ?_)
  · rw [hne] at hq; cases hq
  conv => whnf
  refine Fn.use (H1) ?_
  conv => whnf
  first | refine ⟨trivial, ?_⟩ | refine ⟨⟨rfl, clr_of rfl⟩, ?_⟩
  conv => whnf
  refine Fn.use (H2) ?_
  conv => whnf
  first | refine ⟨trivial, ?_⟩ | refine ⟨⟨rfl, clr_of rfl⟩, ?_⟩
  conv => whnf
  refine Fn.use (H3) ?_
  conv => whnf
  first | refine ⟨trivial, ?_⟩ | refine ⟨⟨rfl, clr_of rfl⟩, ?_⟩
  conv => whnf
  refine Fn.use (H4) ?_
  conv => whnf
  first | refine ⟨trivial, ?_⟩ | refine ⟨⟨rfl, clr_of rfl⟩, ?_⟩
  conv => whnf
  refine Fn.use (H5) ?_
  conv => whnf
  first | refine ⟨trivial, ?_⟩ | refine ⟨⟨rfl, clr_of rfl⟩, ?_⟩
  conv => whnf
  exact ⟨rfl, rfl⟩
theorem implFieldG {T : List Tok} (hT : Toks T) {σ : Ps} (h : σ.In T) (hc : σ.code = 0) (one : ByteArray) (hne : (one.toList == (⟨#[]⟩ : ByteArray).toList) = true) : Fn Tryd.prog [] 64 [.ptr 0 [] 0 0, .sc (.string one)] [psOb T σ] (ret [.agg (tailP T (isT T repeatedB σ) one (now T σ).pos (hasS T repeatedB σ)).1.ocells] [psOb T (tailP T (isT T repeatedB σ) one (now T σ).pos (hasS T repeatedB σ)).2]) := by
  have hcb : (σ.code == 0) = true := by simpa using hc
  have H0 := implNow h
  have HW := implWordB h repeatedB
  rw [word_is hT h (s := repeatedB) (by decide) hcb] at HW
  have h0 := In.has hT h repeatedB
  have h1 := typ_in hT h0
  have h2 := In.take hT (k := 1) h1 (by decide)
  have h3 := In.want hT h2 eqs
  have h4 := In.take hT (k := 2) h3 (by decide)
  have H1 := implType hT h0
  have H2 := implName hT h1
  have H3 := implSign hT h2 (s := eqs) (by unfold Signs eqs; simp)
  have H4 := implTake hT h3 2
  have H5 := implSign hT h4 (s := semi) (by unfold Signs semi; simp)
  have HN := implName hT h
  have eN : isT T repeatedB σ = true → takeS T 1 σ = hasS T repeatedB σ := fun e => by rw [word_take hT (s := repeatedB) (by decide) e, isT_has e]
  have eS : isT T repeatedB σ = false → hasS T repeatedB σ = σ := isT_no
  have hr : tailP T (isT T repeatedB σ) one (now T σ).pos (hasS T repeatedB σ) = (⟨nameT T (typP T (hasS T repeatedB σ)).2, (typP T (hasS T repeatedB σ)).1, intT T (want T eqs (takeS T 1 (typP T (hasS T repeatedB σ)).2)), isT T repeatedB σ, one, (now T σ).pos⟩, want T semi (takeS T 2 (want T eqs (takeS T 1 (typP T (hasS T repeatedB σ)).2)))) := rfl
  rw [hr]
  clear hr
  generalize hasS T repeatedB σ = σ0 at *
  generalize typP T σ0 = R1 at *
  obtain ⟨s1, σ1⟩ := R1
  dsimp only at *
  generalize nameT T σ1 = s2 at *
  generalize takeS T 1 σ1 = σ2 at *
  generalize want T eqs σ2 = σ3 at *
  have hn : intT T σ3 = (pick (kindT T 2 σ3) (now T σ3) zeroTok).num := by unfold intT; cases kindT T 2 σ3 <;> rfl
  rw [hn]
  clear hn
  generalize pick (kindT T 2 σ3) (now T σ3) zeroTok = tk at *
  generalize takeS T 2 σ3 = σ4 at *
  generalize want T semi σ4 = σ5 at *
  generalize now T σ = t0 at *
  generalize isT T repeatedB σ = b at *
  refine fn_of Tryd.func64 (by kernel_rfl) ?_
  conv => whnf
  refine Fn.use (H0) ?_
  conv => whnf
  first | refine ⟨trivial, ?_⟩ | refine ⟨⟨rfl, clr_of rfl⟩, ?_⟩
  conv => whnf
  refine ifP_of (fun hq => ?_) (fun hq => ?_)
  rotate_left
  · rw [hne] at hq; cases hq
  conv => whnf
  refine Fn.use (HW) ?_
  conv => whnf
  first | refine ⟨trivial, ?_⟩ | refine ⟨⟨rfl, clr_of rfl⟩, ?_⟩
  conv => whnf
  refine ifP_of (fun h1 => ?_) (fun h1 => ?_)
  · have h1 : b = true := h1
    subst h1
    rw [eN rfl] at HN
    conv => whnf
    refine Fn.use (HN) ?_
    conv => whnf
    first | refine ⟨trivial, ?_⟩ | refine ⟨⟨rfl, clr_of rfl⟩, ?_⟩
    conv => whnf
    refine Fn.use (H1) ?_
    conv => whnf
    first | refine ⟨trivial, ?_⟩ | refine ⟨⟨rfl, clr_of rfl⟩, ?_⟩
    conv => whnf
    refine Fn.use (H2) ?_
    conv => whnf
    first | refine ⟨trivial, ?_⟩ | refine ⟨⟨rfl, clr_of rfl⟩, ?_⟩
    conv => whnf
    refine Fn.use (H3) ?_
    conv => whnf
    first | refine ⟨trivial, ?_⟩ | refine ⟨⟨rfl, clr_of rfl⟩, ?_⟩
    conv => whnf
    refine Fn.use (H4) ?_
    conv => whnf
    first | refine ⟨trivial, ?_⟩ | refine ⟨⟨rfl, clr_of rfl⟩, ?_⟩
    conv => whnf
    refine Fn.use (H5) ?_
    conv => whnf
    first | refine ⟨trivial, ?_⟩ | refine ⟨⟨rfl, clr_of rfl⟩, ?_⟩
    conv => whnf
    exact ⟨rfl, rfl⟩
  · have h1 : b = false := h1
    subst h1
    have e0 := eS rfl
    subst e0
    conv => whnf
    refine Fn.use (H1) ?_
    conv => whnf
    first | refine ⟨trivial, ?_⟩ | refine ⟨⟨rfl, clr_of rfl⟩, ?_⟩
    conv => whnf
    refine Fn.use (H2) ?_
    conv => whnf
    first | refine ⟨trivial, ?_⟩ | refine ⟨⟨rfl, clr_of rfl⟩, ?_⟩
    conv => whnf
    refine Fn.use (H3) ?_
    conv => whnf
    first | refine ⟨trivial, ?_⟩ | refine ⟨⟨rfl, clr_of rfl⟩, ?_⟩
    conv => whnf
    refine Fn.use (H4) ?_
    conv => whnf
    first | refine ⟨trivial, ?_⟩ | refine ⟨⟨rfl, clr_of rfl⟩, ?_⟩
    conv => whnf
    refine Fn.use (H5) ?_
    conv => whnf
    first | refine ⟨trivial, ?_⟩ | refine ⟨⟨rfl, clr_of rfl⟩, ?_⟩
    conv => whnf
    exact ⟨rfl, rfl⟩
theorem implField {T : List Tok} (hT : Toks T) {σ : Ps} (h : σ.In T) (hc : σ.code = 0) : Fn Tryd.prog [] 64 [.ptr 0 [] 0 0, .sc (.string ⟨#[]⟩)] [psOb T σ] (ret [.agg (fldP T σ).1.ocells] [psOb T (fldP T σ).2]) := implFieldG hT h hc ⟨#[]⟩ (by rw [bytes_eq]; exact decide_eq_true rfl)
end Ev
open Go Ev
open Go.Proofs
set_option maxRecDepth 100000
set_option maxHeartbeats 4000000
set_option linter.unusedVariables false
namespace Ev
theorem int_range {T : List Tok} (hT : Toks T) {σ : Ps} (h : σ.In T) (k : Int) : 0 ≤ (pick (kindT T k σ) (now T σ) zeroTok).num ∧ (pick (kindT T k σ) (now T σ) zeroTok).num ≤ 2147483647 := by
  cases kindT T k σ with
  | true => exact hT.num _ (now_mem h)
  | false => exact ⟨Int.le_refl 0, show (0 : Int) ≤ 2147483647 by decide⟩
theorem int_is (T : List Tok) (σ : Ps) : intT T σ = (pick (kindT T 2 σ) (now T σ) zeroTok).num := by unfold intT; cases kindT T 2 σ <;> rfl
theorem implEnum {T : List Tok} (hT : Toks T) {σ : Ps} (hi : isT T enumB σ = true) : Fn Tryd.prog [] 36 [.ptr 0 [] 0 0] [psOb T σ] (ret [.agg (enumP T σ).1.ocells] [psOb T (enumP T σ).2]) := by
  have h := isT_in hi
  have h1 := adv_in hT hi
  have h2 := In.take hT (k := 1) h1 (by decide)
  have h3 := In.want hT h2 lbr
  have H0 := implNow h
  have H1 := implName hT h
  rw [word_take hT (s := enumB) (by decide) hi] at H1
  have H2 := implName hT h1
  have H3 := implSign hT h2 (s := lbr) (by unfold Signs lbr; simp)
  have hr : enumP T σ = (⟨nameT T σ.adv, (iter (fun x : List EnumVal × Ps => moreC T x.2) (enumF T) (muP T (want T lbr (takeS T 1 σ.adv))) ([], want T lbr (takeS T 1 σ.adv))).1, (now T σ).pos⟩, hasS T rbr (iter (fun x : List EnumVal × Ps => moreC T x.2) (enumF T) (muP T (want T lbr (takeS T 1 σ.adv))) ([], want T lbr (takeS T 1 σ.adv))).2) := rfl
  rw [hr]
  clear hr
  generalize nameT T σ = n00 at *
  generalize nameT T σ.adv = n0 at *
  generalize now T σ = t0 at *
  generalize takeS T 1 σ.adv = σ2 at *
  generalize want T lbr σ2 = σ3 at *
  generalize hR : iter (fun x : List EnumVal × Ps => moreC T x.2) (enumF T) (muP T σ3) ([], σ3) = R
  have hml := mu_le hT σ3
  refine fn_of Tryd.func36 (by kernel_rfl) ?_
  conv => whnf
  refine Fn.use (H0) ?_
  conv => whnf
  first | refine ⟨trivial, ?_⟩ | refine ⟨⟨rfl, clr_of rfl⟩, ?_⟩
  conv => whnf
  refine Fn.use (H1) ?_
  conv => whnf
  first | refine ⟨trivial, ?_⟩ | refine ⟨⟨rfl, clr_of rfl⟩, ?_⟩
  conv => whnf
  refine Fn.use (H2) ?_
  conv => whnf
  first | refine ⟨trivial, ?_⟩ | refine ⟨⟨rfl, clr_of rfl⟩, ?_⟩
  conv => whnf
  refine Fn.use (H3) ?_
  conv => whnf
  first | refine ⟨trivial, ?_⟩ | refine ⟨⟨rfl, clr_of rfl⟩, ?_⟩
  conv => whnf
  refine loop_of (A := List EnumVal × Ps) (fun x => ⟨[(0, .ptr 0 [] 0 0), (2, .ptr 1 [] 0 0), (3, .ptr 2 [] 0 0)], [(1, some ⟨[[.sc (.string .empty), .own true 3 [], .sc (.int .i64 0)]], true, 3, true⟩), (2, some ⟨[[.sc (.string n0), .own true 3 (EnumVal.css x.1), .sc (.int .i64 t0.pos)]], true, 3, true⟩), (0, some (psOb T x.2))], 3, 65, 1⟩) (fun x => muP T x.2) (fun x => x.2.In T ∧ x.1.length + muP T x.2 ≤ 1502 ∧ iter (fun x : List EnumVal × Ps => moreC T x.2) (enumF T) (muP T x.2) x = R) ([], σ3) rfl ⟨h3, by dsimp only [List.length_nil]; omega, hR⟩ ?_
  clear hR hml h h1 h2 h3 hi H0 H1 H2 H3
  clear σ σ3 σ2
  intro ⟨vs, σ⟩ ⟨h, hs, hr⟩ X ih
  dsimp only at h hs hr
  have hm : (fun x : List EnumVal × Ps => moreC T x.2) (vs, σ) = (σ.code == 0 && !isT T rbr σ) := rfl
  have hB := implSignB h rbr
  have hE := implSign hT h (s := rbr) (by unfold Signs rbr; simp)
  have hexit : moreC T σ = false → R = (vs, σ) := fun e => by rw [← hr]; exact iter_no e
  have hmc : moreC T σ = (σ.code == 0 && !isT T rbr σ) := rfl
  conv => whnf
  refine ifP_of (fun h1 => ?_) (fun h1 => ?_)
  rotate_left
  · have h1 : (σ.code == 0) = false := h1
    have e : moreC T σ = false := by rw [hmc, h1]; rfl
    rw [more_no e] at hE
    rw [hexit e]
    conv => whnf
    refine Fn.use (hE) ?_
    conv => whnf
    first | refine ⟨trivial, ?_⟩ | refine ⟨⟨rfl, clr_of rfl⟩, ?_⟩
    conv => whnf
    exact ⟨rfl, rfl⟩
  have h1 : (σ.code == 0) = true := h1
  rw [sign_is hT h (s := rbr) (by unfold Signs rbr; simp) h1] at hB
  generalize hb : isT T rbr σ = b at *
  conv => whnf
  refine Fn.use (hB) ?_
  conv => whnf
  first | refine ⟨trivial, ?_⟩ | refine ⟨⟨rfl, clr_of rfl⟩, ?_⟩
  conv => whnf
  refine ifP_of (fun h2 => ?_) (fun h2 => ?_)
  rotate_left
  · have h2 : b = true := by simpa using h2
    have e : moreC T σ = false := by rw [hmc, h2]; simp
    rw [more_no e] at hE
    rw [hexit e]
    conv => whnf
    refine Fn.use (hE) ?_
    conv => whnf
    first | refine ⟨trivial, ?_⟩ | refine ⟨⟨rfl, clr_of rfl⟩, ?_⟩
    conv => whnf
    exact ⟨rfl, rfl⟩
  have h2 : b = false := by simpa using h2
  subst h2
  have hcode : σ.code = 0 := by simpa using h1
  have e : moreC T σ = true := by rw [hmc, h1]; rfl
  have e : (fun x : List EnumVal × Ps => moreC T x.2) (vs, σ) = true := e
  rw [iter_yes (mu := fun x : List EnumVal × Ps => muP T x.2) (enumF_lt T) e] at hr
  have hlt := enumF_lt T (vs, σ) e
  clear hm hexit hb hB h1 hE hmc e
  have g1 := In.take hT (k := 1) h (by decide)
  have g2 := In.want hT g1 eqs
  have g3 := In.has hT g2 minus
  have g4 := In.take hT (k := 2) g3 (by decide)
  have g5 := In.want hT g4 semi
  have G0 := implNow h
  have G1 := implName hT h
  have G2 := implSign hT g1 (s := eqs) (by unfold Signs eqs; simp)
  have G3 := implSignB g2 minus
  have G3w := implSign hT g2 (s := minus) (by unfold Signs minus; simp)
  have G4 := implTake hT g3 2
  have G5 := implSign hT g4 (s := semi) (by unfold Signs semi; simp)
  have hrng := int_range hT g3 2
  have hf : enumF T (vs, σ) = (vs ++ [⟨nameT T σ, numP (isT T minus (want T eqs (takeS T 1 σ))) (intT T (hasS T minus (want T eqs (takeS T 1 σ)))), (now T σ).pos⟩], want T semi (takeS T 2 (hasS T minus (want T eqs (takeS T 1 σ))))) := rfl
  rw [hf, int_is] at hr hlt
  clear hf
  generalize now T σ = t at *
  generalize nameT T σ = nm at *
  generalize takeS T 1 σ = σ1 at *
  generalize want T eqs σ1 = σ2 at *
  have hsg : (σ2.code == 0) = true → signT T minus σ2 = isT T minus σ2 := fun hc => sign_is hT g2 (by unfold Signs minus; simp) hc
  have hneg : (σ2.code == 0) = false → isT T minus σ2 = false := fun hc => isT_stuck (by simpa using hc)
  have hwn : isT T minus σ2 = true → want T minus σ2 = hasS T minus σ2 := fun hc => by rw [isT_want hc, isT_has hc]
  have hnn : isT T minus σ2 = false → hasS T minus σ2 = σ2 := isT_no
  generalize pick (kindT T 2 (hasS T minus σ2)) (now T (hasS T minus σ2)) zeroTok = tk at *
  obtain ⟨tk1, tk2, num, tk4⟩ := tk
  dsimp only at hrng hr hlt
  generalize isT T minus σ2 = neg at *
  generalize hasS T minus σ2 = σ3 at *
  generalize want T minus σ2 = σ3' at *
  generalize takeS T 2 σ3 = σ4 at *
  generalize want T semi σ4 = σ5 at *
  have hlen := EnumVal.css_len vs
  have hne : ((EnumVal.css vs).length + 1) * 32 ≤ 140737488355328 := by omega
  have fin : ∀ m : Int, m = numP neg num → X ⟨[(0, .ptr 0 [] 0 0), (2, .ptr 1 [] 0 0), (3, .ptr 2 [] 0 0)], [(1, some ⟨[[.sc (.string .empty), .own true 3 [], .sc (.int .i64 0)]], true, 3, true⟩), (2, some ⟨[[.sc (.string n0), .own true 3 (EnumVal.css vs ++ [EnumVal.cells ⟨nm, m, t.pos⟩]), .sc (.int .i64 t0.pos)]], true, 3, true⟩), (0, some (psOb T σ5))], 3, 65, 1⟩ := fun m hm => by
    rw [EnumVal.css_snoc, hm]
    exact ih (vs ++ [⟨nm, numP neg num, t.pos⟩], σ5) ⟨g5, by rw [List.length_append]; dsimp only at hlt ⊢; simp only [List.length_cons, List.length_nil]; omega, hr⟩ hlt
  have hw1 : IntKind.i64.wrap (1 * num) = num := by rw [Int.one_mul]; exact wrap64 (by omega) (by omega)
  have hw2 : IntKind.i64.wrap (-1 * num) = IntKind.i64.wrap (0 - num) := by rw [show -1 * num = 0 - num by omega]
  clear ih hr hlt hlen hs
  conv => whnf
  refine Fn.use (G0) ?_
  conv => whnf
  first | refine ⟨trivial, ?_⟩ | refine ⟨⟨rfl, clr_of rfl⟩, ?_⟩
  conv => whnf
  refine Fn.use (G1) ?_
  conv => whnf
  first | refine ⟨trivial, ?_⟩ | refine ⟨⟨rfl, clr_of rfl⟩, ?_⟩
  conv => whnf
  refine Fn.use (G2) ?_
  conv => whnf
  first | refine ⟨trivial, ?_⟩ | refine ⟨⟨rfl, clr_of rfl⟩, ?_⟩
  conv => whnf
  refine ifP_of (fun h3 => ?_) (fun h3 => ?_)
  rotate_left
  · have h3 : (σ2.code == 0) = false := h3
    have h4 := hneg h3
    subst h4
    have h5 := hnn rfl
    subst h5
    conv => whnf
    refine Fn.use (G4) ?_
    conv => whnf
    first | refine ⟨trivial, ?_⟩ | refine ⟨⟨rfl, clr_of rfl⟩, ?_⟩
    conv => whnf
    refine Fn.use (G5) ?_
    conv => whnf
    first | refine ⟨trivial, ?_⟩ | refine ⟨⟨rfl, clr_of rfl⟩, ?_⟩
    conv => whnf
    refine ⟨one_row rfl, ?_⟩
    conv => whnf
    refine chkP_of ?hchk ?_
    case hchk => first | exact decide_eq_true (by omega) | (simp; done) | (simp; omega) | exact decide_eq_true hne
    conv => whnf
    exact fin (IntKind.i64.wrap (1 * num)) (by rw [hw1]; rfl)
  have h3 : (σ2.code == 0) = true := h3
  rw [hsg h3] at G3
  conv => whnf
  refine Fn.use (G3) ?_
  conv => whnf
  first | refine ⟨trivial, ?_⟩ | refine ⟨⟨rfl, clr_of rfl⟩, ?_⟩
  conv => whnf
  refine ifP_of (fun h4 => ?_) (fun h4 => ?_)
  · have h4 : neg = true := h4
    subst h4
    have h5 := hwn rfl
    subst h5
    conv => whnf
    refine Fn.use (G3w) ?_
    conv => whnf
    first | refine ⟨trivial, ?_⟩ | refine ⟨⟨rfl, clr_of rfl⟩, ?_⟩
    conv => whnf
    refine Fn.use (G4) ?_
    conv => whnf
    first | refine ⟨trivial, ?_⟩ | refine ⟨⟨rfl, clr_of rfl⟩, ?_⟩
    conv => whnf
    refine Fn.use (G5) ?_
    conv => whnf
    first | refine ⟨trivial, ?_⟩ | refine ⟨⟨rfl, clr_of rfl⟩, ?_⟩
    conv => whnf
    refine ⟨one_row rfl, ?_⟩
    conv => whnf
    refine chkP_of ?hchk ?_
    case hchk => first | exact decide_eq_true (by omega) | (simp; done) | (simp; omega) | exact decide_eq_true hne
    conv => whnf
    exact fin (IntKind.i64.wrap (-1 * num)) (by rw [hw2]; rfl)
  · have h4 : neg = false := h4
    subst h4
    have h5 := hnn rfl
    subst h5
    conv => whnf
    refine Fn.use (G4) ?_
    conv => whnf
    first | refine ⟨trivial, ?_⟩ | refine ⟨⟨rfl, clr_of rfl⟩, ?_⟩
    conv => whnf
    refine Fn.use (G5) ?_
    conv => whnf
    first | refine ⟨trivial, ?_⟩ | refine ⟨⟨rfl, clr_of rfl⟩, ?_⟩
    conv => whnf
    refine ⟨one_row rfl, ?_⟩
    conv => whnf
    refine chkP_of ?hchk ?_
    case hchk => first | exact decide_eq_true (by omega) | (simp; done) | (simp; omega) | exact decide_eq_true hne
    conv => whnf
    exact fin (IntKind.i64.wrap (1 * num)) (by rw [hw1]; rfl)
end Ev
open Go Ev
open Go.Proofs
set_option maxRecDepth 100000
set_option maxHeartbeats 4000000
set_option linter.unusedVariables false
namespace Ev
theorem name_ne {T : List Tok} (hT : Toks T) {σ : Ps} (hc : (takeS T 1 σ).code = 0) : (nameT T σ).size ≠ 0 := by
  cases hk : kindT T 1 σ with
  | true =>
    have h1 := (kindT_kind hk).2
    have h2 := kindT_in (by decide) hk
    have h3 := (hT.word _ (now_mem h2) h1).1
    unfold nameT
    rw [hk]
    show (now T σ).text.size ≠ 0
    intro e
    exact h3 (ByteArray.ext (Array.eq_empty_of_size_eq_zero e))
  | false =>
    unfold takeS at hc
    rw [hk] at hc
    exact absurd hc (fails_code (by decide))
theorem want_code {T : List Tok} {s : ByteArray} {σ : Ps} (hc : (want T s σ).code = 0) : σ.code = 0 := by
  by_cases h : σ.code = 0
  · exact h
  · rw [want_stuck h] at hc; exact hc
theorem implOneof {T : List Tok} (hT : Toks T) {σ : Ps} (hi : isT T oneofB σ = true) (m : Message) (hm1 : m.fields.length + muP T σ ≤ 1502) (hm2 : m.oneofs.length + muP T σ ≤ 1502) : Fn Tryd.prog [] 62 [.ptr 0 [] 0 0, .ptr 1 [] 0 0] [psOb T σ, ⟨[m.ocells], true, 7, true⟩] (ret [] [psOb T (oneP T m.fields σ).2, ⟨[(⟨m.name, (oneP T m.fields σ).1, m.oneofs ++ [nameT T σ.adv], m.reserved, m.messages, m.enums, m.pos⟩ : Message).ocells], true, 7, true⟩]) := by
  have h := isT_in hi
  have h1 := adv_in hT hi
  have h2 := In.take hT (k := 1) h1 (by decide)
  have h3 := In.want hT h2 lbr
  have H1 := implName hT h
  rw [word_take hT (s := oneofB) (by decide) hi] at H1
  have H2 := implName hT h1
  have H3 := implSign hT h2 (s := lbr) (by unfold Signs lbr; simp)
  have hmu : muP T (want T lbr (takeS T 1 σ.adv)) ≤ muP T σ := Nat.le_trans (mu_want _) (Nat.le_trans (mu_take _) mu_adv)
  have hnn : (want T lbr (takeS T 1 σ.adv)).code = 0 → (nameT T σ.adv).size ≠ 0 := fun e => name_ne hT (want_code e)
  obtain ⟨name, fields, oneofs, reserved, messages, enums, pos⟩ := m
  dsimp only at hm1 hm2
  have hlo := strC_len oneofs
  have hne : ((strC oneofs).length + 1) * 16 ≤ 140737488355328 := by omega
  have hr : oneP T fields σ = ((iter (fun x : List Field × Ps => moreC T x.2) (oneF T (nameT T σ.adv)) (muP T (want T lbr (takeS T 1 σ.adv))) (fields, want T lbr (takeS T 1 σ.adv))).1, hasS T rbr (iter (fun x : List Field × Ps => moreC T x.2) (oneF T (nameT T σ.adv)) (muP T (want T lbr (takeS T 1 σ.adv))) (fields, want T lbr (takeS T 1 σ.adv))).2) := rfl
  dsimp only
  rw [hr]
  clear hr
  generalize nameT T σ = n00 at *
  generalize nameT T σ.adv = n0 at *
  generalize takeS T 1 σ.adv = σ2 at *
  generalize want T lbr σ2 = σ3 at *
  generalize hR : iter (fun x : List Field × Ps => moreC T x.2) (oneF T n0) (muP T σ3) (fields, σ3) = R
  refine fn_of Tryd.func62 d62 ?_
  conv => whnf
  refine Fn.use (H1) ?_
  conv => whnf
  first | refine ⟨trivial, ?_⟩ | refine ⟨⟨rfl, clr_of rfl⟩, ?_⟩
  conv => whnf
  refine Fn.use (H2) ?_
  conv => whnf
  first | refine ⟨trivial, ?_⟩ | refine ⟨⟨rfl, clr_of rfl⟩, ?_⟩
  conv => whnf
  refine ⟨one_row rfl, ?_⟩
  conv => whnf
  refine chkP_of ?hchk ?_
  case hchk => first | exact decide_eq_true (by omega) | (simp; done) | (simp; omega) | exact decide_eq_true hne
  conv => whnf
  refine Fn.use (H3) ?_
  conv => whnf
  first | refine ⟨trivial, ?_⟩ | refine ⟨⟨rfl, clr_of rfl⟩, ?_⟩
  conv => whnf
  refine loop_of (A := List Field × Ps) (fun x => ⟨[(0, .ptr 0 [] 0 0), (1, .ptr 1 [] 0 0), (4, .sc (.string n0))], [(1, some ⟨[[.sc (.string name), .own true 6 (Field.css x.1), .own true 1 (strC oneofs ++ [[.sc (.string n0)]]), .own true 1 (intC reserved), .own true 7 (Message.css messages), .own true 3 (Enum.css enums), .sc (.int .i64 pos)]], true, 7, true⟩), (0, some (psOb T x.2))], 2, 46, 2⟩) (fun x => muP T x.2) (fun x => x.2.In T ∧ x.1.length + muP T x.2 ≤ 1502 ∧ (x.2.code = 0 → n0.size ≠ 0) ∧ iter (fun x : List Field × Ps => moreC T x.2) (oneF T n0) (muP T x.2) x = R) (fields, σ3) rfl ⟨h3, by dsimp only; omega, hnn, hR⟩ ?_
  clear hR hmu h h1 h2 h3 hi hm1 hm2 hnn H1 H2 H3 hne
  clear σ σ3 σ2
  intro ⟨vs, σ⟩ ⟨h, hs, hnn, hr⟩ X ih
  dsimp only at h hs hr hnn
  have hB := implSignB h rbr
  have hE := implSign hT h (s := rbr) (by unfold Signs rbr; simp)
  have hexit : moreC T σ = false → R = (vs, σ) := fun e => by rw [← hr]; exact iter_no e
  have hmc : moreC T σ = (σ.code == 0 && !isT T rbr σ) := rfl
  conv => whnf
  refine ifP_of (fun h1 => ?_) (fun h1 => ?_)
  rotate_left
  · have h1 : (σ.code == 0) = false := h1
    have e : moreC T σ = false := by rw [hmc, h1]; rfl
    rw [more_no e] at hE
    rw [hexit e]
    conv => whnf
    refine Fn.use (hE) ?_
    conv => whnf
    first | refine ⟨trivial, ?_⟩ | refine ⟨⟨rfl, clr_of rfl⟩, ?_⟩
    conv => whnf
    exact ⟨rfl, by rw [strC_snoc]; rfl⟩
  have h1 : (σ.code == 0) = true := h1
  rw [sign_is hT h (s := rbr) (by unfold Signs rbr; simp) h1] at hB
  generalize hb : isT T rbr σ = b at *
  conv => whnf
  refine Fn.use (hB) ?_
  conv => whnf
  first | refine ⟨trivial, ?_⟩ | refine ⟨⟨rfl, clr_of rfl⟩, ?_⟩
  conv => whnf
  refine ifP_of (fun h2 => ?_) (fun h2 => ?_)
  rotate_left
  · have h2 : b = true := by simpa using h2
    have e : moreC T σ = false := by rw [hmc, h2]; simp
    rw [more_no e] at hE
    rw [hexit e]
    conv => whnf
    refine Fn.use (hE) ?_
    conv => whnf
    first | refine ⟨trivial, ?_⟩ | refine ⟨⟨rfl, clr_of rfl⟩, ?_⟩
    conv => whnf
    exact ⟨rfl, by rw [strC_snoc]; rfl⟩
  have h2 : b = false := by simpa using h2
  subst h2
  have hcode : σ.code = 0 := by simpa using h1
  have e : (fun x : List Field × Ps => moreC T x.2) (vs, σ) = true := by show moreC T σ = true; rw [hmc, h1]; rfl
  rw [iter_yes (mu := fun x : List Field × Ps => muP T x.2) (oneF_lt T n0) e] at hr
  have hlt := oneF_lt T n0 (vs, σ) e
  have hle := oneF_len (n := n0) (vs, σ) e hs
  have g1 := tail_in hT h false n0 (now T σ).pos
  have G1 := implFldTail hT h n0 (hnn hcode)
  have hf : oneF T n0 (vs, σ) = (vs ++ [(tailP T false n0 (now T σ).pos σ).1], (tailP T false n0 (now T σ).pos σ).2) := rfl
  have hn2 := hnn hcode
  rw [hf] at hr hlt hle
  clear hf hexit hb hB h1 hE hmc e hnn
  generalize tailP T false n0 (now T σ).pos σ = R1 at *
  obtain ⟨⟨f1, f2, f3, f4, f5, f6⟩, σ1⟩ := R1
  have hlen := Field.css_len vs
  have hne : ((Field.css vs).length + 1) * 72 ≤ 140737488355328 := by omega
  have fin : X ⟨[(0, .ptr 0 [] 0 0), (1, .ptr 1 [] 0 0), (4, .sc (.string n0))], [(1, some ⟨[[.sc (.string name), .own true 6 (Field.css vs ++ [Field.cells ⟨f1, f2, f3, f4, f5, f6⟩]), .own true 1 (strC oneofs ++ [[.sc (.string n0)]]), .own true 1 (intC reserved), .own true 7 (Message.css messages), .own true 3 (Enum.css enums), .sc (.int .i64 pos)]], true, 7, true⟩), (0, some (psOb T σ1))], 2, 46, 2⟩ := by
    rw [Field.css_snoc]
    exact ih _ ⟨g1, hle, fun _ => hn2, hr⟩ hlt
  clear ih hr hle hlt hs hlen
  conv => whnf
  refine regP_go ?_
  conv => whnf
  refine And.intro ?_ ?_
  · conv => whnf
    refine Fn.use (G1) ?_
    conv => whnf
    first | refine ⟨trivial, ?_⟩ | refine ⟨⟨rfl, clr_of rfl⟩, ?_⟩
    conv => whnf
    refine ⟨one_row rfl, ?_⟩
    conv => whnf
    refine chkP_of ?hchk ?_
    case hchk => first | exact decide_eq_true (by omega) | (simp; done) | (simp; omega) | exact decide_eq_true hne
    conv => whnf
    exact fin
  · conv => whnf
    refine And.intro ?_ ?_
    · conv => whnf
      refine Fn.use (G1) ?_
      conv => whnf
      first | refine ⟨trivial, ?_⟩ | refine ⟨⟨rfl, clr_of rfl⟩, ?_⟩
      conv => whnf
      refine ⟨one_row rfl, ?_⟩
      conv => whnf
      refine chkP_of ?hchk ?_
      case hchk => first | exact decide_eq_true (by omega) | (simp; done) | (simp; omega) | exact decide_eq_true hne
      conv => whnf
      exact fin
    · exact trivial
theorem implReserved {T : List Tok} (hT : Toks T) {σ : Ps} (hi : isT T reservedB σ = true) (m : Message) (hm1 : m.reserved.length + muP T σ ≤ 1502) : Fn Tryd.prog [] 63 [.ptr 0 [] 0 0, .ptr 1 [] 0 0] [psOb T σ, ⟨[m.ocells], true, 7, true⟩] (ret [] [psOb T (resP' T m.reserved σ).2, ⟨[(⟨m.name, m.fields, m.oneofs, (resP' T m.reserved σ).1, m.messages, m.enums, m.pos⟩ : Message).ocells], true, 7, true⟩]) := by
  have h := isT_in hi
  have g0 := adv_in hT hi
  have H1 := implName hT h
  rw [word_take hT (s := reservedB) (by decide) hi] at H1
  have HN := implTake hT g0 2
  have g1 := In.take hT (k := 2) g0 (by decide)
  obtain ⟨name, fields, oneofs, reserved, messages, enums, pos⟩ := m
  dsimp only at hm1
  have hlr := intC_len reserved
  have hmu : muP T (takeS T 2 σ.adv) + 1 ≤ muP T σ := by
    have := adv_lt hi
    have := mu_take (T := T) (σ := σ.adv) 2
    omega
  have hrs : resP' T reserved σ = ((iter (fun x : List Int × Ps => isT T comma x.2) (resF T) (muP T (takeS T 2 σ.adv)) (reserved ++ [intT T σ.adv], takeS T 2 σ.adv)).1, want T semi (iter (fun x : List Int × Ps => isT T comma x.2) (resF T) (muP T (takeS T 2 σ.adv)) (reserved ++ [intT T σ.adv], takeS T 2 σ.adv)).2) := rfl
  dsimp only
  rw [hrs, int_is]
  clear hrs
  generalize nameT T σ = n00 at *
  generalize pick (kindT T 2 σ.adv) (now T σ.adv) zeroTok = tk at *
  obtain ⟨tk1, tk2, n1, tk4⟩ := tk
  dsimp only
  generalize takeS T 2 σ.adv = σ1 at *
  generalize hR2 : iter (fun x : List Int × Ps => isT T comma x.2) (resF T) (muP T σ1) (reserved ++ [n1], σ1) = R2
  have hne : ((intC reserved).length + 1) * 8 ≤ 140737488355328 := by omega
  refine fn_of Tryd.func63 d63 ?_
  conv => whnf
  refine Fn.use (H1) ?_
  conv => whnf
  first | refine ⟨trivial, ?_⟩ | refine ⟨⟨rfl, clr_of rfl⟩, ?_⟩
  conv => whnf
  refine regP_by (fun t => canonK [0, 1] t fun u => u = ⟨[(0, .ptr 0 [] 0 0), (1, .ptr 1 [] 0 0)], [(1, some ⟨[[.sc (.string name), .own true 6 (Field.css fields), .own true 1 (strC oneofs), .own true 1 (intC reserved ++ [[.sc (.int .i64 n1)]]), .own true 7 (Message.css messages), .own true 3 (Enum.css enums), .sc (.int .i64 pos)]], true, 7, true⟩), (0, some (psOb T σ1))], 2, 44, 2⟩) ?_ ?_
  · conv => whnf
    refine And.intro ?_ ?_
    · conv => whnf
      refine Fn.use (HN) ?_
      conv => whnf
      first | refine ⟨trivial, ?_⟩ | refine ⟨⟨rfl, clr_of rfl⟩, ?_⟩
      conv => whnf
      refine ⟨one_row rfl, ?_⟩
      conv => whnf
      refine chkP_of ?hchk ?_
      case hchk => first | exact decide_eq_true (by omega) | (simp; done) | (simp; omega) | exact decide_eq_true hne
      conv => whnf
      exact rfl
    · conv => whnf
      refine And.intro ?_ ?_
      · conv => whnf
        refine Fn.use (HN) ?_
        conv => whnf
        first | refine ⟨trivial, ?_⟩ | refine ⟨⟨rfl, clr_of rfl⟩, ?_⟩
        conv => whnf
        refine ⟨one_row rfl, ?_⟩
        conv => whnf
        refine chkP_of ?hchk ?_
        case hchk => first | exact decide_eq_true (by omega) | (simp; done) | (simp; omega) | exact decide_eq_true hne
        conv => whnf
        exact rfl
      · exact trivial
  intro t ht
  refine canonK_at ht ?_
  clear ht
  rw [intC_snoc]
  clear hne hlr HN H1 h g0 hi
  refine loop_of (A := List Int × Ps) (fun x => ⟨[(0, .ptr 0 [] 0 0), (1, .ptr 1 [] 0 0)], [(1, some ⟨[[.sc (.string name), .own true 6 (Field.css fields), .own true 1 (strC oneofs), .own true 1 (intC x.1), .own true 7 (Message.css messages), .own true 3 (Enum.css enums), .sc (.int .i64 pos)]], true, 7, true⟩), (0, some (psOb T x.2))], 2, 44, 2⟩) (fun x => muP T x.2) (fun x => x.2.In T ∧ x.1.length + muP T x.2 ≤ 1502 ∧ iter (fun x : List Int × Ps => isT T comma x.2) (resF T) (muP T x.2) x = R2) (reserved ++ [n1], σ1) rfl ⟨g1, by rw [List.length_append, List.length_singleton]; dsimp only; omega, hR2⟩ ?_
  clear hR2 hmu g1 hm1
  clear σ1 n1
  intro ⟨l, σ1⟩ ⟨g1, hs2, hr2⟩ Y ih2
  dsimp only at g1 hs2 hr2
  have hB := implSignB g1 comma
  have HW := implSign hT g1 (s := semi) (by unfold Signs semi; simp)
  have hll := intC_len l
  have hne : ((intC l).length + 1) * 8 ≤ 140737488355328 := by omega
  have hexit : isT T comma σ1 = false → R2 = (l, σ1) := fun e => by rw [← hr2]; exact iter_no (c := fun x : List Int × Ps => isT T comma x.2) e
  conv => whnf
  refine ifP_of (fun h1 => ?_) (fun h1 => ?_)
  rotate_left
  · have h1 : (σ1.code == 0) = false := h1
    rw [hexit (isT_stuck (by simpa using h1))]
    conv => whnf
    refine Fn.use (HW) ?_
    conv => whnf
    first | refine ⟨trivial, ?_⟩ | refine ⟨⟨rfl, clr_of rfl⟩, ?_⟩
    conv => whnf
    exact ⟨rfl, rfl⟩
  have h1 : (σ1.code == 0) = true := h1
  rw [sign_is hT g1 (s := comma) (by unfold Signs comma; simp) h1] at hB
  conv => whnf
  refine Fn.use (hB) ?_
  conv => whnf
  first | refine ⟨trivial, ?_⟩ | refine ⟨⟨rfl, clr_of rfl⟩, ?_⟩
  conv => whnf
  refine ifP_of (fun h2 => ?_) (fun h2 => ?_)
  rotate_left
  · have h2 : isT T comma σ1 = false := h2
    rw [hexit h2]
    conv => whnf
    refine Fn.use (HW) ?_
    conv => whnf
    first | refine ⟨trivial, ?_⟩ | refine ⟨⟨rfl, clr_of rfl⟩, ?_⟩
    conv => whnf
    exact ⟨rfl, rfl⟩
  have h2 : isT T comma σ1 = true := h2
  have e : (fun x : List Int × Ps => isT T comma x.2) (l, σ1) = true := h2
  rw [iter_yes (mu := fun x : List Int × Ps => muP T x.2) (resF_lt T) e] at hr2
  have hlt := resF_lt T (l, σ1) h2
  have hle := resF_len (l, σ1) h2 hs2
  have HC := implSign hT g1 (s := comma) (by unfold Signs comma; simp)
  rw [isT_want h2] at HC
  have g2 := adv_in hT h2
  have HN := implTake hT g2 2
  have g3 := In.take hT (k := 2) g2 (by decide)
  have hf : resF T (l, σ1) = (l ++ [intT T σ1.adv], takeS T 2 σ1.adv) := rfl
  rw [hf, int_is] at hr2 hlt hle
  clear hf e hB HW hexit h1 h2
  generalize takeS T 2 σ1.adv = σ2 at *
  generalize pick (kindT T 2 σ1.adv) (now T σ1.adv) zeroTok = tk at *
  obtain ⟨tk1, tk2, n2, tk4⟩ := tk
  dsimp only at hr2 hlt hle
  have fin2 : Y ⟨[(0, .ptr 0 [] 0 0), (1, .ptr 1 [] 0 0)], [(1, some ⟨[[.sc (.string name), .own true 6 (Field.css fields), .own true 1 (strC oneofs), .own true 1 (intC l ++ [[.sc (.int .i64 n2)]]), .own true 7 (Message.css messages), .own true 3 (Enum.css enums), .sc (.int .i64 pos)]], true, 7, true⟩), (0, some (psOb T σ2))], 2, 44, 2⟩ := by
    rw [intC_snoc]
    exact ih2 (l ++ [n2], σ2) ⟨g3, hle, hr2⟩ hlt
  clear ih2 hr2 hle hlt hs2
  conv => whnf
  refine Fn.use (HC) ?_
  conv => whnf
  first | refine ⟨trivial, ?_⟩ | refine ⟨⟨rfl, clr_of rfl⟩, ?_⟩
  conv => whnf
  refine regP_go ?_
  conv => whnf
  refine And.intro ?_ ?_
  · conv => whnf
    refine Fn.use (HN) ?_
    conv => whnf
    first | refine ⟨trivial, ?_⟩ | refine ⟨⟨rfl, clr_of rfl⟩, ?_⟩
    conv => whnf
    refine ⟨one_row rfl, ?_⟩
    conv => whnf
    refine chkP_of ?hchk ?_
    case hchk => first | exact decide_eq_true (by omega) | (simp; done) | (simp; omega) | exact decide_eq_true hne
    conv => whnf
    exact fin2
  · conv => whnf
    refine And.intro ?_ ?_
    · conv => whnf
      refine Fn.use (HN) ?_
      conv => whnf
      first | refine ⟨trivial, ?_⟩ | refine ⟨⟨rfl, clr_of rfl⟩, ?_⟩
      conv => whnf
      refine ⟨one_row rfl, ?_⟩
      conv => whnf
      refine chkP_of ?hchk ?_
      case hchk => first | exact decide_eq_true (by omega) | (simp; done) | (simp; omega) | exact decide_eq_true hne
      conv => whnf
      exact fin2
    · exact trivial
end Ev
open Go Ev
open Go.Proofs
set_option maxRecDepth 100000
set_option maxHeartbeats 4000000
set_option linter.unusedVariables false
namespace Ev
def msgStI (k : Nat) (p0 : Int) (n0 : ByteArray) (T : List Tok) (x : Message × Ps) : St := ⟨[(0, .ptr 0 [] 0 0), (1, .sc (.int .i64 k)), (4, .ptr 1 [] 0 0), (5, .ptr 2 [] 0 0)], [(1, some ⟨[(⟨.empty, [], [], [], [], [], 0⟩ : Message).ocells], true, 7, true⟩), (2, some ⟨[x.1.ocells], true, 7, true⟩), (0, some (psOb T x.2))], 3, 77, 1⟩
theorem msgStI_eq (d : Nat) (p0 : Int) (n0 : ByteArray) (T : List Tok) (name : ByteArray) (fields : List Field) (oneofs : List ByteArray) (reserved : List Int) (messages : List Message) (enums : List Enum) (pos : Int) (σ : Ps) : msgStI d p0 n0 T (⟨name, fields, oneofs, reserved, messages, enums, pos⟩, σ) = ⟨[(0, .ptr 0 [] 0 0), (1, .sc (.int .i64 d)), (4, .ptr 1 [] 0 0), (5, .ptr 2 [] 0 0)], [(1, some ⟨[[.sc (.string .empty), .own true 6 [], .own true 1 [], .own true 1 [], .own true 7 [], .own true 3 [], .sc (.int .i64 0)]], true, 7, true⟩), (2, some ⟨[[.sc (.string name), .own true 6 (Field.css fields), .own true 1 (strC oneofs), .own true 1 (intC reserved), .own true 7 (Message.css messages), .own true 3 (Enum.css enums), .sc (.int .i64 pos)]], true, 7, true⟩), (0, some ⟨[[.own true 4 (Tok.css T), .sc (.int .i64 σ.at'), .sc (.int .i64 σ.code), .sc (.int .i64 σ.pos)]], true, 4, true⟩)], 3, 77, 1⟩ := rfl
theorem implMsg0 {T : List Tok} (hT : Toks T) {σ : Ps} (h : σ.In T) : Fn Tryd.prog [] 35 [.ptr 0 [] 0 0, .sc (.int .i64 ((9 : Nat) : Int))] [psOb T σ] (ret [.agg (msgP T 0 σ).1.ocells] [psOb T (msgP T 0 σ).2]) := by
  have H0 := implNow h
  have H1 := implFails h 16
  have hr : msgP T 0 σ = (⟨.empty, [], [], [], [], [], (now T σ).pos⟩, fails T 16 σ) := rfl
  rw [hr]
  clear hr
  generalize fails T 16 σ = σ1 at *
  generalize now T σ = t at *
  refine fn_of Tryd.func35 d35 ?_
  conv => whnf
  refine Fn.use (H0) ?_
  conv => whnf
  first | refine ⟨trivial, ?_⟩ | refine ⟨⟨rfl, clr_of rfl⟩, ?_⟩
  conv => whnf
  refine Fn.use (H1) ?_
  conv => whnf
  first | refine ⟨trivial, ?_⟩ | refine ⟨⟨rfl, clr_of rfl⟩, ?_⟩
  conv => whnf
  exact ⟨rfl, rfl⟩
theorem implMsgS {T : List Tok} (hT : Toks T) {k d : Nat} (hd : d + k = 8) (IH : ∀ σ, isT T messageB σ = true → Fn Tryd.prog [] 35 [.ptr 0 [] 0 0, .sc (.int .i64 ((d + 1 : Nat) : Int))] [psOb T σ] (ret [.agg (msgP T k σ).1.ocells] [psOb T (msgP T k σ).2])) {σ : Ps} (hi : isT T messageB σ = true) : Fn Tryd.prog [] 35 [.ptr 0 [] 0 0, .sc (.int .i64 (d : Int))] [psOb T σ] (ret [.agg (msgP T (k + 1) σ).1.ocells] [psOb T (msgP T (k + 1) σ).2]) := by
  have h := isT_in hi
  have H0 := implNow h
  have H1 := implName hT h
  rw [word_take hT (s := messageB) (by decide) hi] at H1
  have h1 := adv_in hT hi
  have H2 := implName hT h1
  have h2 := In.take hT (k := 1) h1 (by decide)
  have H3 := implSign hT h2 (s := lbr) (by unfold Signs lbr; simp)
  have h3 := In.want hT h2 lbr
  have hr : msgP T (k + 1) σ = ((iter (fun x : Message × Ps => moreC T x.2) (msgF T (msgP T k)) (muP T (want T lbr (takeS T 1 (want T messageB σ)))) (⟨nameT T (want T messageB σ), [], [], [], [], [], (now T σ).pos⟩, want T lbr (takeS T 1 (want T messageB σ)))).1, hasS T rbr (iter (fun x : Message × Ps => moreC T x.2) (msgF T (msgP T k)) (muP T (want T lbr (takeS T 1 (want T messageB σ)))) (⟨nameT T (want T messageB σ), [], [], [], [], [], (now T σ).pos⟩, want T lbr (takeS T 1 (want T messageB σ)))).2) := rfl
  rw [hr, isT_want hi]
  clear hr
  have hsub := msg_lt T k
  have hsubin := msg_in hT k
  generalize msgP T k = sub at *
  generalize nameT T σ = n00 at *
  generalize nameT T σ.adv = n0 at *
  generalize takeS T 1 σ.adv = σ2 at *
  generalize want T lbr σ2 = σ3 at *
  generalize now T σ = t0 at *
  generalize hR : iter (fun x : Message × Ps => moreC T x.2) (msgF T sub) (muP T σ3) (⟨n0, [], [], [], [], [], t0.pos⟩, σ3) = R
  have hml := mu_le hT σ3
  refine fn_of Tryd.func35 d35 ?_
  conv => whnf
  refine Fn.use (H0) ?_
  conv => whnf
  first | refine ⟨trivial, ?_⟩ | refine ⟨⟨rfl, clr_of rfl⟩, ?_⟩
  conv => whnf
  refine ifP_of (fun hq => ?_) (fun hq => ?_)
  · have := of_decide_eq_true hq; omega
  clear hq
  conv => whnf
  refine Fn.use (H1) ?_
  conv => whnf
  first | refine ⟨trivial, ?_⟩ | refine ⟨⟨rfl, clr_of rfl⟩, ?_⟩
  conv => whnf
  refine Fn.use (H2) ?_
  conv => whnf
  first | refine ⟨trivial, ?_⟩ | refine ⟨⟨rfl, clr_of rfl⟩, ?_⟩
  conv => whnf
  refine Fn.use (H3) ?_
  conv => whnf
  first | refine ⟨trivial, ?_⟩ | refine ⟨⟨rfl, clr_of rfl⟩, ?_⟩
  conv => whnf
  refine loop_of (A := Message × Ps) (msgStI d t0.pos n0 T) (fun x => muP T x.2) (fun x => x.2.In T ∧ MsB T x ∧ iter (fun x : Message × Ps => moreC T x.2) (msgF T sub) (muP T x.2) x = R) (⟨n0, [], [], [], [], [], t0.pos⟩, σ3) rfl ⟨h3, ⟨by simpa using hml, by simpa using hml, by simpa using hml, by simpa using hml, by simpa using hml⟩, hR⟩ ?_
  clear hR hml H0 H1 H2 H3 h h1 h2 h3 hi
  clear σ σ2 σ3
  intro ⟨m, σ⟩ ⟨h, hs, hr⟩ X ih
  dsimp only at h hr
  obtain ⟨b1, b2, b3, b4, b5⟩ := hs
  obtain ⟨name, fields, oneofs, reserved, messages, enums, pos⟩ := m
  dsimp only at b1 b2 b3 b4 b5
  rw [msgStI_eq]
  have hs : MsB T (⟨name, fields, oneofs, reserved, messages, enums, pos⟩, σ) := ⟨b1, b2, b3, b4, b5⟩
  have hB := implSignB h rbr
  have hE := implSign hT h (s := rbr) (by unfold Signs rbr; simp)
  have hexit : moreC T σ = false → R = (⟨name, fields, oneofs, reserved, messages, enums, pos⟩, σ) := fun e => by rw [← hr]; exact iter_no e
  have hmc : moreC T σ = (σ.code == 0 && !isT T rbr σ) := rfl
  conv => whnf
  refine ifP_of (fun h1 => ?_) (fun h1 => ?_)
  rotate_left
  · have h1 : (σ.code == 0) = false := h1
    have e : moreC T σ = false := by rw [hmc, h1]; rfl
    rw [more_no e] at hE
    rw [hexit e]
    conv => whnf
    refine Fn.use (hE) ?_
    conv => whnf
    first | refine ⟨trivial, ?_⟩ | refine ⟨⟨rfl, clr_of rfl⟩, ?_⟩
    conv => whnf
    exact ⟨rfl, rfl⟩
  have h1 : (σ.code == 0) = true := h1
  rw [sign_is hT h (s := rbr) (by unfold Signs rbr; simp) h1] at hB
  generalize hb : isT T rbr σ = b at *
  conv => whnf
  refine Fn.use (hB) ?_
  conv => whnf
  first | refine ⟨trivial, ?_⟩ | refine ⟨⟨rfl, clr_of rfl⟩, ?_⟩
  conv => whnf
  refine ifP_of (fun h2 => ?_) (fun h2 => ?_)
  rotate_left
  · have h2 : b = true := by simpa using h2
    have e : moreC T σ = false := by rw [hmc, h2]; simp
    rw [more_no e] at hE
    rw [hexit e]
    conv => whnf
    refine Fn.use (hE) ?_
    conv => whnf
    first | refine ⟨trivial, ?_⟩ | refine ⟨⟨rfl, clr_of rfl⟩, ?_⟩
    conv => whnf
    exact ⟨rfl, rfl⟩
  have h2 : b = false := by simpa using h2
  subst h2
  have hcode : σ.code = 0 := by simpa using h1
  have e : moreC T σ = true := by rw [hmc, h1]; rfl
  have e' : (fun x : Message × Ps => moreC T x.2) (⟨name, fields, oneofs, reserved, messages, enums, pos⟩, σ) = true := e
  rw [iter_yes (mu := fun x : Message × Ps => muP T x.2) (msgF_lt T hsub) e'] at hr
  have hlt := msgF_lt T hsub (⟨name, fields, oneofs, reserved, messages, enums, pos⟩, σ) e
  have hle := msgF_b hsub (⟨name, fields, oneofs, reserved, messages, enums, pos⟩, σ) e hs
  have hin := msgF_in hT hsubin (⟨name, fields, oneofs, reserved, messages, enums, pos⟩, σ) h
  have fin : X (msgStI d t0.pos n0 T (msgF T sub (⟨name, fields, oneofs, reserved, messages, enums, pos⟩, σ))) := ih _ ⟨hin, hle, hr⟩ hlt
  clear hexit hb hB ih hr hlt hle hin hmc e e' hE hs
  have hf : msgF T sub (⟨name, fields, oneofs, reserved, messages, enums, pos⟩, σ) = pick (isT T messageB σ) ((⟨name, fields, oneofs, reserved, messages ++ [(sub σ).1], enums, pos⟩ : Message), (sub σ).2)
    (pick (isT T enumB σ) ((⟨name, fields, oneofs, reserved, messages, enums ++ [(enumP T σ).1], pos⟩ : Message), (enumP T σ).2)
      (pick (isT T oneofB σ) ((⟨name, (oneP T fields σ).1, oneofs ++ [nameT T σ.adv], reserved, messages, enums, pos⟩ : Message), (oneP T fields σ).2)
        (pick (isT T reservedB σ) ((⟨name, fields, oneofs, (resP' T reserved σ).1, messages, enums, pos⟩ : Message), (resP' T reserved σ).2)
          ((⟨name, fields ++ [(fldP T σ).1], oneofs, reserved, messages, enums, pos⟩ : Message), (fldP T σ).2)))) := rfl
  rw [hf] at fin
  clear hf
  have hlf := Field.css_len fields
  have hlo := strC_len oneofs
  have hlr := intC_len reserved
  have hlm := Message.css_len messages
  have hle := Enum.css_len enums
  have hI1 := implWordB h messageB
  rw [word_is hT h (s := messageB) (by decide) h1] at hI1
  conv => whnf
  refine Fn.use (hI1) ?_
  conv => whnf
  first | refine ⟨trivial, ?_⟩ | refine ⟨⟨rfl, clr_of rfl⟩, ?_⟩
  conv => whnf
  cases c1 : isT T messageB σ with
  | true =>
    rw [c1] at fin
    simp only [pick] at fin
    have HS := IH σ c1
    generalize sub σ = R1 at *
    obtain ⟨⟨q1, q2, q3, q4, q5, q6, q7⟩, σ1⟩ := R1
    dsimp only at fin HS
    have hw : IntKind.i64.wrap ((d : Int) + 1) = ((d + 1 : Nat) : Int) := by rw [wrap64 (by omega) (by omega)]; omega
    rw [← hw] at HS
    have hne : ((Message.css messages).length + 1) * 144 ≤ 140737488355328 := by omega
    have hgl := last_get (Message.css messages) zrow
    have fin2 : X ⟨[(0, .ptr 0 [] 0 0), (1, .sc (.int .i64 d)), (4, .ptr 1 [] 0 0), (5, .ptr 2 [] 0 0)], [(1, some ⟨[[.sc (.string .empty), .own true 6 [], .own true 1 [], .own true 1 [], .own true 7 [], .own true 3 [], .sc (.int .i64 0)]], true, 7, true⟩), (2, some ⟨[[.sc (.string name), .own true 6 (Field.css fields), .own true 1 (strC oneofs), .own true 1 (intC reserved), .own true 7 ((Message.css messages ++ [zrow]).set (((Message.css messages).length : Nat) : Int).toNat (Message.cells ⟨q1, q2, q3, q4, q5, q6, q7⟩)), .own true 3 (Enum.css enums), .sc (.int .i64 pos)]], true, 7, true⟩), (0, some ⟨[[.own true 4 (Tok.css T), .sc (.int .i64 σ1.at'), .sc (.int .i64 σ1.code), .sc (.int .i64 σ1.pos)]], true, 4, true⟩)], 3, 77, 1⟩ := by
      rw [last_set, Message.css_snoc]
      exact fin
    clear fin
    conv => whnf
    refine regP_go ?_
    conv => whnf
    refine And.intro ?_ ?_
    · conv => whnf
      refine And.intro ?_ ?_
      · conv => whnf
        refine Fn.use (HS) ?_
        conv => whnf
        first | refine ⟨trivial, ?_⟩ | refine ⟨⟨rfl, clr_of rfl⟩, ?_⟩
        conv => whnf
        refine ⟨one_row2 rfl, ?_⟩
        conv => whnf
        refine chkP_of ?hchk ?_
        case hchk => first | exact decide_eq_true (by omega) | (simp; done) | (simp; omega) | exact decide_eq_true hne
        conv => whnf
        refine optP_of (hgl) ?_
        conv => whnf
        refine And.intro ?_ ?_
        · conv => whnf
          refine optP_of (hgl) ?_
          conv => whnf
          exact fin2
        · conv => whnf
          refine And.intro ?_ ?_
          · conv => whnf
            refine optP_of (hgl) ?_
            conv => whnf
            exact fin2
          · exact trivial
      · conv => whnf
        refine And.intro ?_ ?_
        · conv => whnf
          refine Fn.use (HS) ?_
          conv => whnf
          first | refine ⟨trivial, ?_⟩ | refine ⟨⟨rfl, clr_of rfl⟩, ?_⟩
          conv => whnf
          refine ⟨one_row2 rfl, ?_⟩
          conv => whnf
          refine chkP_of ?hchk ?_
          case hchk => first | exact decide_eq_true (by omega) | (simp; done) | (simp; omega) | exact decide_eq_true hne
          conv => whnf
          refine optP_of (hgl) ?_
          conv => whnf
          refine And.intro ?_ ?_
          · conv => whnf
            refine optP_of (hgl) ?_
            conv => whnf
            exact fin2
          · conv => whnf
            refine And.intro ?_ ?_
            · conv => whnf
              refine optP_of (hgl) ?_
              conv => whnf
              exact fin2
            · exact trivial
        · exact trivial
    · conv => whnf
      refine And.intro ?_ ?_
      · conv => whnf
        refine Fn.use (HS) ?_
        conv => whnf
        first | refine ⟨trivial, ?_⟩ | refine ⟨⟨rfl, clr_of rfl⟩, ?_⟩
        conv => whnf
        refine ⟨one_row2 rfl, ?_⟩
        conv => whnf
        refine chkP_of ?hchk ?_
        case hchk => first | exact decide_eq_true (by omega) | (simp; done) | (simp; omega) | exact decide_eq_true hne
        conv => whnf
        refine optP_of (hgl) ?_
        conv => whnf
        refine And.intro ?_ ?_
        · conv => whnf
          refine optP_of (hgl) ?_
          conv => whnf
          exact fin2
        · conv => whnf
          refine And.intro ?_ ?_
          · conv => whnf
            refine optP_of (hgl) ?_
            conv => whnf
            exact fin2
          · exact trivial
      · conv => whnf
        refine And.intro ?_ ?_
        · conv => whnf
          refine And.intro ?_ ?_
          · conv => whnf
            refine Fn.use (HS) ?_
            conv => whnf
            first | refine ⟨trivial, ?_⟩ | refine ⟨⟨rfl, clr_of rfl⟩, ?_⟩
            conv => whnf
            refine ⟨one_row2 rfl, ?_⟩
            conv => whnf
            refine chkP_of ?hchk ?_
            case hchk => first | exact decide_eq_true (by omega) | (simp; done) | (simp; omega) | exact decide_eq_true hne
            conv => whnf
            refine optP_of (hgl) ?_
            conv => whnf
            refine And.intro ?_ ?_
            · conv => whnf
              refine optP_of (hgl) ?_
              conv => whnf
              exact fin2
            · conv => whnf
              refine And.intro ?_ ?_
              · conv => whnf
                refine optP_of (hgl) ?_
                conv => whnf
                exact fin2
              · exact trivial
          · conv => whnf
            refine And.intro ?_ ?_
            · conv => whnf
              refine Fn.use (HS) ?_
              conv => whnf
              first | refine ⟨trivial, ?_⟩ | refine ⟨⟨rfl, clr_of rfl⟩, ?_⟩
              conv => whnf
              refine ⟨one_row2 rfl, ?_⟩
              conv => whnf
              refine chkP_of ?hchk ?_
              case hchk => first | exact decide_eq_true (by omega) | (simp; done) | (simp; omega) | exact decide_eq_true hne
              conv => whnf
              refine optP_of (hgl) ?_
              conv => whnf
              refine And.intro ?_ ?_
              · conv => whnf
                refine optP_of (hgl) ?_
                conv => whnf
                exact fin2
              · conv => whnf
                refine And.intro ?_ ?_
                · conv => whnf
                  refine optP_of (hgl) ?_
                  conv => whnf
                  exact fin2
                · exact trivial
            · exact trivial
        · exact trivial
  | false =>
  rw [c1] at fin
  have hI2 := implWordB h enumB
  rw [word_is hT h (s := enumB) (by decide) h1] at hI2
  conv => whnf
  refine Fn.use (hI2) ?_
  conv => whnf
  first | refine ⟨trivial, ?_⟩ | refine ⟨⟨rfl, clr_of rfl⟩, ?_⟩
  conv => whnf
  cases c2 : isT T enumB σ with
  | true =>
    rw [c2] at fin
    simp only [pick] at fin
    have HS := implEnum hT c2
    generalize enumP T σ = R1 at *
    obtain ⟨⟨q1, q2, q3⟩, σ1⟩ := R1
    dsimp only at fin HS
    have fin2 : X ⟨[(0, .ptr 0 [] 0 0), (1, .sc (.int .i64 d)), (4, .ptr 1 [] 0 0), (5, .ptr 2 [] 0 0)], [(1, some ⟨[[.sc (.string .empty), .own true 6 [], .own true 1 [], .own true 1 [], .own true 7 [], .own true 3 [], .sc (.int .i64 0)]], true, 7, true⟩), (2, some ⟨[[.sc (.string name), .own true 6 (Field.css fields), .own true 1 (strC oneofs), .own true 1 (intC reserved), .own true 7 (Message.css messages), .own true 3 (Enum.css enums ++ [Enum.cells ⟨q1, q2, q3⟩]), .sc (.int .i64 pos)]], true, 7, true⟩), (0, some ⟨[[.own true 4 (Tok.css T), .sc (.int .i64 σ1.at'), .sc (.int .i64 σ1.code), .sc (.int .i64 σ1.pos)]], true, 4, true⟩)], 3, 77, 1⟩ := by
      rw [Enum.css_snoc]
      exact fin
    clear fin
    have hne : ((Enum.css enums).length + 1) * 48 ≤ 140737488355328 := by omega
    conv => whnf
    refine regP_go ?_
    conv => whnf
    refine And.intro ?_ ?_
    · conv => whnf
      refine Fn.use (HS) ?_
      conv => whnf
      first | refine ⟨trivial, ?_⟩ | refine ⟨⟨rfl, clr_of rfl⟩, ?_⟩
      conv => whnf
      refine ⟨one_row2 rfl, ?_⟩
      conv => whnf
      refine chkP_of ?hchk ?_
      case hchk => first | exact decide_eq_true (by omega) | (simp; done) | (simp; omega) | exact decide_eq_true hne
      conv => whnf
      exact fin2
    · conv => whnf
      refine And.intro ?_ ?_
      · conv => whnf
        refine Fn.use (HS) ?_
        conv => whnf
        first | refine ⟨trivial, ?_⟩ | refine ⟨⟨rfl, clr_of rfl⟩, ?_⟩
        conv => whnf
        refine ⟨one_row2 rfl, ?_⟩
        conv => whnf
        refine chkP_of ?hchk ?_
        case hchk => first | exact decide_eq_true (by omega) | (simp; done) | (simp; omega) | exact decide_eq_true hne
        conv => whnf
        exact fin2
      · exact trivial
  | false =>
  rw [c2] at fin
  have hI3 := implWordB h oneofB
  rw [word_is hT h (s := oneofB) (by decide) h1] at hI3
  conv => whnf
  refine Fn.use (hI3) ?_
  conv => whnf
  first | refine ⟨trivial, ?_⟩ | refine ⟨⟨rfl, clr_of rfl⟩, ?_⟩
  conv => whnf
  cases c3 : isT T oneofB σ with
  | true =>
    rw [c3] at fin
    simp only [pick] at fin
    have HS := implOneof hT c3 ⟨name, fields, oneofs, reserved, messages, enums, pos⟩ b1 b2
    conv => whnf
    refine Fn.use (HS) ?_
    conv => whnf
    first | refine ⟨trivial, ?_⟩ | refine ⟨⟨rfl, clr_of rfl⟩, ?_⟩
    conv => whnf
    exact fin
  | false =>
  rw [c3] at fin
  have hI4 := implWordB h reservedB
  rw [word_is hT h (s := reservedB) (by decide) h1] at hI4
  conv => whnf
  refine Fn.use (hI4) ?_
  conv => whnf
  first | refine ⟨trivial, ?_⟩ | refine ⟨⟨rfl, clr_of rfl⟩, ?_⟩
  conv => whnf
  cases c4 : isT T reservedB σ with
  | true =>
    rw [c4] at fin
    simp only [pick] at fin
    have HS := implReserved hT c4 ⟨name, fields, oneofs, reserved, messages, enums, pos⟩ b3
    conv => whnf
    refine Fn.use (HS) ?_
    conv => whnf
    first | refine ⟨trivial, ?_⟩ | refine ⟨⟨rfl, clr_of rfl⟩, ?_⟩
    conv => whnf
    exact fin
  | false =>
  rw [c4] at fin
  simp only [pick] at fin
  have HT := implField hT h hcode
  generalize fldP T σ = R1 at *
  obtain ⟨⟨f1, f2, f3, f4, f5, f6⟩, σ2⟩ := R1
  dsimp only at fin
  have fin2 : X ⟨[(0, .ptr 0 [] 0 0), (1, .sc (.int .i64 d)), (4, .ptr 1 [] 0 0), (5, .ptr 2 [] 0 0)], [(1, some ⟨[[.sc (.string .empty), .own true 6 [], .own true 1 [], .own true 1 [], .own true 7 [], .own true 3 [], .sc (.int .i64 0)]], true, 7, true⟩), (2, some ⟨[[.sc (.string name), .own true 6 (Field.css fields ++ [Field.cells ⟨f1, f2, f3, f4, f5, f6⟩]), .own true 1 (strC oneofs), .own true 1 (intC reserved), .own true 7 (Message.css messages), .own true 3 (Enum.css enums), .sc (.int .i64 pos)]], true, 7, true⟩), (0, some ⟨[[.own true 4 (Tok.css T), .sc (.int .i64 σ2.at'), .sc (.int .i64 σ2.code), .sc (.int .i64 σ2.pos)]], true, 4, true⟩)], 3, 77, 1⟩ := by
    rw [Field.css_snoc]
    exact fin
  clear fin
  have hne : ((Field.css fields).length + 1) * 72 ≤ 140737488355328 := by omega
  conv => whnf
  refine regP_go ?_
  conv => whnf
  refine And.intro ?_ ?_
  · conv => whnf
    refine Fn.use (HT) ?_
    conv => whnf
    first | refine ⟨trivial, ?_⟩ | refine ⟨⟨rfl, clr_of rfl⟩, ?_⟩
    conv => whnf
    refine ⟨one_row rfl, ?_⟩
    conv => whnf
    refine chkP_of ?hchk ?_
    case hchk => first | exact decide_eq_true (by omega) | (simp; done) | (simp; omega) | exact decide_eq_true hne
    conv => whnf
    exact fin2
  · conv => whnf
    refine And.intro ?_ ?_
    · conv => whnf
      refine Fn.use (HT) ?_
      conv => whnf
      first | refine ⟨trivial, ?_⟩ | refine ⟨⟨rfl, clr_of rfl⟩, ?_⟩
      conv => whnf
      refine ⟨one_row rfl, ?_⟩
      conv => whnf
      refine chkP_of ?hchk ?_
      case hchk => first | exact decide_eq_true (by omega) | (simp; done) | (simp; omega) | exact decide_eq_true hne
      conv => whnf
      exact fin2
    · exact trivial
theorem implMsg {T : List Tok} (hT : Toks T) : ∀ (k d : Nat), d + k = 9 → ∀ {σ : Ps}, isT T messageB σ = true → Fn Tryd.prog [] 35 [.ptr 0 [] 0 0, .sc (.int .i64 (d : Int))] [psOb T σ] (ret [.agg (msgP T k σ).1.ocells] [psOb T (msgP T k σ).2])
  | 0, d, hd, σ, h => by
    obtain rfl : d = 9 := by omega
    exact implMsg0 hT (isT_in h)
  | k + 1, d, hd, σ, h => implMsgS hT (by omega) (fun σ h => implMsg hT k (d + 1) (by omega) h) h
end Ev
