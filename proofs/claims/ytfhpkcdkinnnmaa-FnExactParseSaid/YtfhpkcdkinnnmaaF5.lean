/- Contracts of functions of the given program, shown on the evaluator; each states its own conditions. -/
import Derived.Test.YtfhpkcdkinnnmaaF4
import Derived.Test.YtfhpkcdkinnnmaaF2
import Derived.Test.YtfhpkcdkinnnmaaF1
open Go Ev
open Go.Proofs
set_option maxRecDepth 100000
set_option maxHeartbeats 4000000
set_option linter.unusedVariables false
namespace Ev
theorem EnumVal.cns_app : ∀ (l m : List EnumVal), EnumVal.cns (l ++ m) = EnumVal.cns l + EnumVal.cns m
  | [], m => by rw [List.nil_append, show EnumVal.cns [] = 0 from rfl]; omega
  | a :: l, m => by rw [List.cons_append, EnumVal.cns, EnumVal.cns, EnumVal.cns_app l m]; omega
theorem Field.cns_app : ∀ (l m : List Field), Field.cns (l ++ m) = Field.cns l + Field.cns m
  | [], m => by rw [List.nil_append, show Field.cns [] = 0 from rfl]; omega
  | a :: l, m => by rw [List.cons_append, Field.cns, Field.cns, Field.cns_app l m]; omega
theorem Enum.cns_app : ∀ (l m : List Enum), Enum.cns (l ++ m) = Enum.cns l + Enum.cns m
  | [], m => by rw [List.nil_append, show Enum.cns [] = 0 from rfl]; omega
  | a :: l, m => by rw [List.cons_append, Enum.cns, Enum.cns, Enum.cns_app l m]; omega
theorem Message.cns_app : ∀ (l m : List Message), Message.cns (l ++ m) = Message.cns l + Message.cns m
  | [], m => by rw [List.nil_append, show Message.cns [] = 0 by rw [Message.cns]]; omega
  | a :: l, m => by rw [List.cons_append, Message.cns, Message.cns, Message.cns_app l m]; omega
theorem Enum.cn_mem : ∀ {l : List Enum} {a : Enum}, a ∈ l → a.cn ≤ Enum.cns l
  | b :: l, a, h => by
    rw [Enum.cns]
    rcases List.mem_cons.1 h with rfl | h
    · omega
    · have := Enum.cn_mem h; omega
theorem Message.cn_mem : ∀ {l : List Message} {a : Message}, a ∈ l → a.cn ≤ Message.cns l
  | b :: l, a, h => by
    rw [Message.cns]
    rcases List.mem_cons.1 h with rfl | h
    · omega
    · have := Message.cn_mem h; omega
theorem Field.cn_eq (a : Field) : a.cn = 6 := by cases a; rfl
theorem EnumVal.cn_eq (a : EnumVal) : a.cn = 3 := by cases a; rfl
-- what is read is no more than what there was
theorem Field.cns_one (a : Field) : Field.cns [a] = 6 := by rw [Field.cns, Field.cn_eq]; rfl
theorem EnumVal.cns_one (a : EnumVal) : EnumVal.cns [a] = 3 := by rw [EnumVal.cns, EnumVal.cn_eq]; rfl
theorem enum_cn (T : List Tok) {σ : Ps} (h : isT T enumB σ = true) : (enumP T σ).1.cn + 10 * muP T (enumP T σ).2 ≤ 10 * muP T σ := by
  have h0 := adv_lt h
  have h1 : EnumVal.cns ([] : List EnumVal) + 10 * muP T (want T lbr (takeS T 1 σ.adv)) ≤ 10 * muP T σ.adv := by
    have := Nat.le_trans (mu_want (T := T) (σ := takeS T 1 σ.adv) lbr) (mu_take (T := T) (σ := σ.adv) 1)
    show 0 + _ ≤ _
    omega
  have h2 := iter_inv (c := fun x : List EnumVal × Ps => moreC T x.2) (f := enumF T) (P := fun x => EnumVal.cns x.1 + 10 * muP T x.2 ≤ 10 * muP T σ.adv) (fun x hc hx => by
    have h3 := enumF_lt T x hc
    have h4 : EnumVal.cns (enumF T x).1 = EnumVal.cns x.1 + 3 := by
      show EnumVal.cns (x.1 ++ [_]) = _
      rw [EnumVal.cns_app, EnumVal.cns_one]
    rw [h4]; omega) (muP T (want T lbr (takeS T 1 σ.adv))) ([], want T lbr (takeS T 1 σ.adv)) h1
  have h5 : (enumP T σ).1.cn = 1 + EnumVal.cns (iter (fun x : List EnumVal × Ps => moreC T x.2) (enumF T) (muP T (want T lbr (takeS T 1 σ.adv))) ([], want T lbr (takeS T 1 σ.adv))).1 + 1 := rfl
  have h6 : muP T (enumP T σ).2 ≤ muP T (iter (fun x : List EnumVal × Ps => moreC T x.2) (enumF T) (muP T (want T lbr (takeS T 1 σ.adv))) ([], want T lbr (takeS T 1 σ.adv))).2 := mu_has _
  rw [h5]; omega
theorem one_cn (T : List Tok) (fs : List Field) {σ : Ps} (h : isT T oneofB σ = true) : Field.cns (oneP T fs σ).1 + 1 + 10 * muP T (oneP T fs σ).2 ≤ Field.cns fs + 10 * muP T σ := by
  have h0 := adv_lt h
  have h1 : Field.cns fs + 10 * muP T (want T lbr (takeS T 1 σ.adv)) ≤ Field.cns fs + 10 * muP T σ.adv := by
    have := Nat.le_trans (mu_want (T := T) (σ := takeS T 1 σ.adv) lbr) (mu_take (T := T) (σ := σ.adv) 1)
    omega
  have h2 := iter_inv (c := fun x : List Field × Ps => moreC T x.2) (f := oneF T (nameT T σ.adv)) (P := fun x => Field.cns x.1 + 10 * muP T x.2 ≤ Field.cns fs + 10 * muP T σ.adv) (fun x hc hx => by
    have h3 := oneF_lt T (nameT T σ.adv) x hc
    have h4 : Field.cns (oneF T (nameT T σ.adv) x).1 = Field.cns x.1 + 6 := by
      show Field.cns (x.1 ++ [_]) = _
      rw [Field.cns_app, Field.cns_one]
    rw [h4]; omega) (muP T (want T lbr (takeS T 1 σ.adv))) (fs, want T lbr (takeS T 1 σ.adv)) h1
  have h5 : Field.cns (oneP T fs σ).1 = Field.cns (iter (fun x : List Field × Ps => moreC T x.2) (oneF T (nameT T σ.adv)) (muP T (want T lbr (takeS T 1 σ.adv))) (fs, want T lbr (takeS T 1 σ.adv))).1 := rfl
  have h6 : muP T (oneP T fs σ).2 ≤ muP T (iter (fun x : List Field × Ps => moreC T x.2) (oneF T (nameT T σ.adv)) (muP T (want T lbr (takeS T 1 σ.adv))) (fs, want T lbr (takeS T 1 σ.adv))).2 := mu_has _
  rw [h5]; omega
theorem res_cn (T : List Tok) (l : List Int) {σ : Ps} (h : isT T reservedB σ = true) : (resP' T l σ).1.length + 10 * muP T (resP' T l σ).2 ≤ l.length + 10 * muP T σ := by
  have h0 := adv_lt h
  have h1 : (l ++ [intT T σ.adv]).length + 10 * muP T (takeS T 2 σ.adv) ≤ l.length + 10 * muP T σ := by
    have := mu_take (T := T) (σ := σ.adv) 2
    rw [List.length_append, List.length_singleton]
    omega
  have h2 := iter_inv (c := fun x : List Int × Ps => isT T comma x.2) (f := resF T) (P := fun x => x.1.length + 10 * muP T x.2 ≤ l.length + 10 * muP T σ) (fun x hc hx => by
    have h3 := resF_lt T x hc
    have h4 : (resF T x).1.length = x.1.length + 1 := by unfold resF; rw [List.length_append]; rfl
    rw [h4]; omega) (muP T (takeS T 2 σ.adv)) (l ++ [intT T σ.adv], takeS T 2 σ.adv) h1
  have h5 : (resP' T l σ).1.length = (iter (fun x : List Int × Ps => isT T comma x.2) (resF T) (muP T (takeS T 2 σ.adv)) (l ++ [intT T σ.adv], takeS T 2 σ.adv)).1.length := rfl
  have h6 : muP T (resP' T l σ).2 ≤ muP T (iter (fun x : List Int × Ps => isT T comma x.2) (resF T) (muP T (takeS T 2 σ.adv)) (l ++ [intT T σ.adv], takeS T 2 σ.adv)).2 := mu_want _
  rw [h5]; omega
theorem Message.cn_eq (name : ByteArray) (fields : List Field) (oneofs : List ByteArray) (reserved : List Int) (messages : List Message) (enums : List Enum) (pos : Int) : Message.cn ⟨name, fields, oneofs, reserved, messages, enums, pos⟩ = 1 + Field.cns fields + oneofs.length + reserved.length + Message.cns messages + Enum.cns enums + 1 := by rw [Message.cn]
theorem msgF_cn {T : List Tok} {sub : Ps → Message × Ps} (hs : ∀ σ, σ.code = 0 → (sub σ).1.cn + 10 * muP T (sub σ).2 ≤ 10 * muP T σ) (x : Message × Ps) (hc : moreC T x.2 = true) : (msgF T sub x).1.cn + 10 * muP T (msgF T sub x).2 ≤ x.1.cn + 10 * muP T x.2 := by
  have hcode := more_code hc
  obtain ⟨⟨name, fields, oneofs, reserved, messages, enums, pos⟩, σ⟩ := x
  dsimp only at hcode ⊢
  unfold msgF
  dsimp only
  rw [Message.cn_eq]
  cases h1 : isT T messageB σ with
  | true =>
    have := hs σ hcode
    simp only [pick]
    rw [Message.cn_eq, Message.cns_app, show Message.cns [(sub σ).1] = (sub σ).1.cn + 0 by rw [Message.cns, Message.cns]]
    omega
  | false =>
    cases h2 : isT T enumB σ with
    | true =>
      have := enum_cn T h2
      simp only [pick]
      rw [Message.cn_eq, Enum.cns_app, show Enum.cns [(enumP T σ).1] = (enumP T σ).1.cn + 0 from rfl]
      omega
    | false =>
      cases h3 : isT T oneofB σ with
      | true =>
        have := one_cn T fields h3
        simp only [pick]
        rw [Message.cn_eq, List.length_append, List.length_singleton]
        omega
      | false =>
        cases h4 : isT T reservedB σ with
        | true =>
          have := res_cn T reserved h4
          simp only [pick]
          rw [Message.cn_eq]
          omega
        | false =>
          have := fld_lt T hcode
          simp only [pick]
          rw [Message.cn_eq, Field.cns_app, Field.cns_one]
          omega
theorem msg_cn (T : List Tok) : ∀ (k : Nat) (σ : Ps), σ.code = 0 → (msgP T k σ).1.cn + 10 * muP T (msgP T k σ).2 ≤ 10 * muP T σ
  | 0, σ, h => by
    show Message.cn ⟨.empty, [], [], [], [], [], (now T σ).pos⟩ + 10 * muP T (fails T 16 σ) ≤ _
    rw [mu_fails (by decide), Message.cn_eq]
    have := mu_pos (T := T) h
    rw [show Field.cns [] = 0 from rfl, show Enum.cns [] = 0 from rfl, show Message.cns [] = 0 by rw [Message.cns]]
    simp only [List.length_nil]
    omega
  | k + 1, σ, h => by
    have h0 := want_lt (T := T) messageB h
    have h1 : Message.cn ⟨nameT T (want T messageB σ), [], [], [], [], [], (now T σ).pos⟩ + 10 * muP T (want T lbr (takeS T 1 (want T messageB σ))) ≤ 10 * muP T σ := by
      have := Nat.le_trans (mu_want (T := T) (σ := takeS T 1 (want T messageB σ)) lbr) (mu_take (T := T) (σ := want T messageB σ) 1)
      rw [Message.cn_eq, show Field.cns [] = 0 from rfl, show Enum.cns [] = 0 from rfl, show Message.cns [] = 0 by rw [Message.cns]]
      simp only [List.length_nil]
      omega
    have h2 := iter_inv (c := fun x : Message × Ps => moreC T x.2) (f := msgF T (msgP T k)) (P := fun x => x.1.cn + 10 * muP T x.2 ≤ 10 * muP T σ) (fun x hc hx => Nat.le_trans (msgF_cn (msg_cn T k) x hc) hx) (muP T (want T lbr (takeS T 1 (want T messageB σ)))) (⟨nameT T (want T messageB σ), [], [], [], [], [], (now T σ).pos⟩, want T lbr (takeS T 1 (want T messageB σ))) h1
    exact Nat.le_trans (Nat.add_le_add_left (Nat.mul_le_mul_left 10 (mu_has _)) _) h2
theorem file_cn {T : List Tok} (hT : Toks T) : Message.cns (fileP T).1.messages + Enum.cns (fileP T).1.enums ≤ 15020 := by
  have h1 : Message.cns (⟨[], []⟩ : File).messages + Enum.cns (⟨[], []⟩ : File).enums + 10 * muP T ⟨0, 0, 0⟩ ≤ 15020 := by
    have := mu_le hT ⟨0, 0, 0⟩
    rw [show Message.cns (⟨[], []⟩ : File).messages = 0 by rw [Message.cns], show Enum.cns (⟨[], []⟩ : File).enums = 0 from rfl]
    omega
  have h2 := iter_inv (c := fun x : File × Ps => fileC T x.2) (f := fileF T) (P := fun x => Message.cns x.1.messages + Enum.cns x.1.enums + 10 * muP T x.2 ≤ 15020) (fun x hc hx => by
    have hcode := fileC_code hc
    unfold fileF
    cases h2 : isT T enumB x.2 with
    | true =>
      have := enum_cn T h2
      simp only [pick]
      rw [Enum.cns_app, show Enum.cns [(enumP T x.2).1] = (enumP T x.2).1.cn + 0 from rfl]
      omega
    | false =>
      have := msg_cn T 8 x.2 hcode
      simp only [pick]
      rw [Message.cns_app, show Message.cns [(msgP T 8 x.2).1] = (msgP T 8 x.2).1.cn + 0 by rw [Message.cns, Message.cns]]
      omega) (muP T ⟨0, 0, 0⟩) (⟨[], []⟩, ⟨0, 0, 0⟩) h1
  unfold fileP
  dsimp only
  generalize iter (fun x : File × Ps => fileC T x.2) (fileF T) (muP T ⟨0, 0, 0⟩) (⟨[], []⟩, ⟨0, 0, 0⟩) = y at *
  cases y.2.code == 0 with
  | true => simp only [pick]; omega
  | false =>
    simp only [pick]
    rw [show Message.cns [] = 0 by rw [Message.cns], show Enum.cns [] = 0 from rfl]; omega
theorem parse_cn (s : ByteArray) : Message.cns (parseP s).1.messages + Enum.cns (parseP s).1.enums ≤ 15020 := by
  unfold parseP
  cases h : (lexP s).2.1 == 0 with
  | true => exact file_cn (lex_toks (by simpa using h))
  | false =>
    show Message.cns [] + Enum.cns [] ≤ 15020
    rw [show Message.cns [] = 0 by rw [Message.cns], show Enum.cns [] = 0 from rfl]; omega
-- equality, by how much is to be seen
theorem eqEnum_c (a : Enum) (h : a.cn ≤ 1048576) (b : Enum) : Fn Try.prog [] 106 [.agg a.acells, .agg b.acells] [] (ret [.sc (.bool (eqb a b))] []) := by
  obtain ⟨n, vs, p⟩ := a
  have := EnumVal.cns_ge vs
  have h : 1 + EnumVal.cns vs + 1 ≤ 1048576 := h
  exact eqEnum_ok _ _ (eqEnumValS_ok vs b.vals (by omega) (fun x _ y _ => eqEnumVal_ok x y))
theorem eqMessage_c : ∀ (n : Nat) (a : Message), sizeOf a < n → a.cn ≤ 1048576 → ∀ b : Message, Fn Try.prog [] 105 [.agg a.acells, .agg b.acells] [] (ret [.sc (.bool (eqb a b))] []) := by
  intro n
  induction n with
  | zero => intro a hn; omega
  | succ n ih =>
    intro a hn ha b
    obtain ⟨a_name, a_fields, a_oneofs, a_reserved, a_messages, a_enums, a_pos⟩ := a
    rw [Message.cn_eq] at ha
    obtain ⟨b_name, b_fields, b_oneofs, b_reserved, b_messages, b_enums, b_pos⟩ := b
    have := Field.cns_ge a_fields
    have := Message.cns_ge a_messages
    have := Enum.cns_ge a_enums
    exact eqMessage_ok _ _ (eqFieldS_ok a_fields b_fields (by omega) (fun x _ y _ => eqField_ok x y)) (eqStringS_ok a_oneofs b_oneofs (by omega)) (eqIntS_ok a_reserved b_reserved (by omega)) (eqMessageS_ok a_messages b_messages (by omega) (fun x hx y hy => ih x (by have := List.sizeOf_lt_of_mem hx; simp at hn; omega) (by have := Message.cn_mem hx; omega) y)) (eqEnumS_ok a_enums b_enums (by omega) (fun x hx y _ => eqEnum_c x (by have := Enum.cn_mem hx; omega) y))
theorem eqFile_c (a : File) (h : Message.cns a.messages + Enum.cns a.enums ≤ 1048576) (b : File) : Fn Try.prog [] 13 [.agg a.acells, .agg b.acells] [] (ret [.sc (.bool (eqb a b))] []) := by
  obtain ⟨ms, es⟩ := a
  dsimp only at h
  have := Message.cns_ge ms
  have := Enum.cns_ge es
  exact eqFile_ok _ _ (eqMessageS_ok ms b.messages (by omega) (fun x hx y _ => eqMessage_c _ x (Nat.lt_succ_self _) (by have := Message.cn_mem hx; omega) y)) (eqEnumS_ok es b.enums (by omega) (fun x hx y _ => eqEnum_c x (by have := Enum.cn_mem hx; omega) y))
end Ev
open Go Ev
open Go.Proofs
set_option maxRecDepth 100000
set_option maxHeartbeats 4000000
set_option linter.unusedVariables false
namespace Ev
theorem eqFault_ok (a b : Int) : Fn Try.prog [] 29 [.agg [.sc (.int .i64 a), .sc (.int .i64 b)], .agg [.sc (.int .i64 a), .sc (.int .i64 b)]] [] (ret [.sc (.bool true)] []) := by
  refine fn_of Try.func29 (by kernel_rfl) ?_
  conv => whnf
  refine ifP_no (neI _) ?_
  conv => whnf
  refine ifP_no (neI _) ?_
  conv => whnf
  exact ⟨rfl, rfl⟩
def File.mk' (f : File) (k : Int) : File := ⟨Message.mks f.messages k, Enum.mks f.enums (k + ((Message.cns f.messages : Nat) : Int))⟩
def File.cn' (f : File) (k : Int) : Int := k + ((Message.cns f.messages : Nat) : Int) + ((Enum.cns f.enums : Nat) : Int)
theorem markFile_ok (f : File) (k : Int) (h0 : 0 ≤ k) (h1 : File.cn' f k ≤ 4611686018427387904) : Fn Try.prog [] 30 [.agg [.hdr 0 [(0, 0)], .hdr 0 [(0, 1)]], .sc (.int .i64 k)] [⟨[f.ocells], true, 2, true⟩] (ret [.sc (.int .i64 (File.cn' f k))] [⟨[(File.mk' f k).ocells], true, 2, true⟩]) := by
  obtain ⟨ms, es⟩ := f
  unfold File.cn' at *
  unfold File.mk'
  dsimp only at *
  have H1 := markMessageS_all ms k h0 (by omega)
  have H2 := markEnumS_ok es (k + ((Message.cns ms : Nat) : Int)) (by omega) (by omega)
  refine fn_of Try.func30 (by kernel_rfl) ?_
  conv => whnf
  refine Fn.use (H1) ?_
  conv => whnf
  first | refine ⟨trivial, ?_⟩ | refine ⟨⟨rfl, clr_of rfl⟩, ?_⟩
  conv => whnf
  refine Fn.use (H2) ?_
  conv => whnf
  first | refine ⟨trivial, ?_⟩ | refine ⟨⟨rfl, clr_of rfl⟩, ?_⟩
  conv => whnf
  exact ⟨rfl, rfl⟩
theorem heldFile_ok (f : File) (k : Int) (h0 : 0 ≤ k) (h1 : File.cn' f k ≤ 4611686018427387904) : Fn Try.prog [] 31 [.agg (File.mk' f k).acells, .sc (.int .i64 k)] [] (ret [.sc (.int .i64 (File.cn' f k))] []) := by
  obtain ⟨ms, es⟩ := f
  unfold File.cn' at *
  unfold File.mk'
  dsimp only at *
  have H1 := heldMessageS_all ms k h0 (by omega)
  have H2 := heldEnumS_ok es (k + ((Message.cns ms : Nat) : Int)) (by omega) (by omega)
  refine fn_of Try.func31 (by kernel_rfl) ?_
  conv => whnf
  refine Fn.use (H1) ?_
  conv => whnf
  first | refine ⟨trivial, ?_⟩ | refine ⟨⟨rfl, clr_of rfl⟩, ?_⟩
  conv => whnf
  refine ifP_no (decide_eq_false (by omega)) ?_
  conv => whnf
  refine Fn.use (H2) ?_
  conv => whnf
  first | refine ⟨trivial, ?_⟩ | refine ⟨⟨rfl, clr_of rfl⟩, ?_⟩
  conv => whnf
  refine ifP_no (decide_eq_false (by omega)) ?_
  conv => whnf
  exact ⟨rfl, rfl⟩
theorem lawParse (s : ByteArray) : Fn Try.prog [] 7 [.sc (.string s)] [] (ret [.sc (.bool true)] []) := by
  have HS := specParse s
  have HI := implParse s
  have hcn := parse_cn s
  generalize parseP s = R at *
  obtain ⟨f, c, p⟩ := R
  dsimp only at hcn HS HI
  have HE := eqFile_c f (by omega) f
  rw [eqb_yes rfl] at HE
  have HF := eqFault_ok c p
  have hk : File.cn' f 1 = 1 + ((Message.cns f.messages : Nat) : Int) + ((Enum.cns f.enums : Nat) : Int) := rfl
  have HM := markFile_ok f 1 (by decide) (by omega)
  have HH := heldFile_ok f 1 (by decide) (by omega)
  have hpos : decide (File.cn' f 1 < 0) = false := decide_eq_false (by omega)
  generalize File.cn' f 1 = K at *
  generalize File.mk' f 1 = g at *
  obtain ⟨ms, es⟩ := f
  obtain ⟨gm, ge⟩ := g
  clear hcn hk
  refine fn_of Try.func7 (by kernel_rfl) ?_
  conv => whnf
  refine ifP_of (fun h0 => ?_) (fun h0 => ?_)
  · conv => whnf
    exact ⟨rfl, rfl⟩
  clear h0
  conv => whnf
  refine Fn.use (HS) ?_
  conv => whnf
  first | refine ⟨trivial, ?_⟩ | refine ⟨⟨rfl, clr_of rfl⟩, ?_⟩
  conv => whnf
  refine Fn.use (HI) ?_
  conv => whnf
  first | refine ⟨trivial, ?_⟩ | refine ⟨⟨rfl, clr_of rfl⟩, ?_⟩
  conv => whnf
  refine Fn.use (HE) ?_
  conv => whnf
  first | refine ⟨trivial, ?_⟩ | refine ⟨⟨rfl, clr_of rfl⟩, ?_⟩
  conv => whnf
  refine Fn.use (HF) ?_
  conv => whnf
  first | refine ⟨trivial, ?_⟩ | refine ⟨⟨rfl, clr_of rfl⟩, ?_⟩
  conv => whnf
  refine Fn.use (HM) ?_
  conv => whnf
  first | refine ⟨trivial, ?_⟩ | refine ⟨⟨rfl, clr_of rfl⟩, ?_⟩
  conv => whnf
  refine Fn.use HH ?_
  refine ⟨⟨rfl, clr_of rfl⟩, ?_⟩
  as_aux_lemma =>
    conv => whnf
    refine ifP_no hpos ?_
    conv => whnf
    refine ifP_no (neI K) ?_
    conv => whnf
    refine Fn.use (HI) ?_
    conv => whnf
    first | refine ⟨trivial, ?_⟩ | refine ⟨⟨rfl, clr_of rfl⟩, ?_⟩
    conv => whnf
    refine Fn.use (HE) ?_
    conv => whnf
    first | refine ⟨trivial, ?_⟩ | refine ⟨⟨rfl, clr_of rfl⟩, ?_⟩
    conv => whnf
    refine Fn.use (HF) ?_
    conv => whnf
    first | refine ⟨trivial, ?_⟩ | refine ⟨⟨rfl, clr_of rfl⟩, ?_⟩
    conv => whnf
    refine Fn.use HH ?_
    refine ⟨⟨rfl, clr_of rfl⟩, ?_⟩
    as_aux_lemma =>
      conv => whnf
      refine ifP_no hpos ?_
      conv => whnf
      refine ifP_no (neI K) ?_
      conv => whnf
      exact ⟨rfl, rfl⟩
end Ev
