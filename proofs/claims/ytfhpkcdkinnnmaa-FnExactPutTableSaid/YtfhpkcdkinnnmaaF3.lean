/- Contracts of functions of the given program, shown on the evaluator; each states its own conditions. -/
import Derived.Test.YtfhpkcdkinnnmaaF2
import Derived.Test.YtfhpkcdkinnnmaaF1
open Go Ev
open Go.Proofs
set_option maxRecDepth 100000
set_option maxHeartbeats 4000000
set_option linter.unusedVariables false
namespace Ev
def bitOf (c : Bool) (n : Int) : Int := match c with
  | true => n
  | false => 0
theorem specBit (c : Bool) (n : Int) : Fn Try.prog [] 65 [.sc (.bool c), .sc (.int .i64 n)] [] (ret [.sc (.int .i64 (bitOf c n))] []) := by
  refine fn_of Try.func65 (by kernel_rfl) ?_
  conv => whnf
  refine ifP_of (fun h => ?_) (fun h => ?_)
  · subst h
    conv => whnf
    exact ⟨rfl, rfl⟩
  · subst h
    conv => whnf
    exact ⟨rfl, rfl⟩
theorem implBit (c : Bool) (n : Int) : Fn Try.prog [] 68 [.sc (.bool c), .sc (.int .i64 n)] [] (ret [.sc (.int .i64 (bitOf c n))] []) := by
  refine fn_of Try.func68 (by kernel_rfl) ?_
  conv => whnf
  refine ifP_of (fun h => ?_) (fun h => ?_)
  · subst h
    conv => whnf
    exact ⟨rfl, rfl⟩
  · subst h
    conv => whnf
    exact ⟨rfl, rfl⟩
end Ev
open Go Ev
open Go.Proofs
set_option maxRecDepth 100000
set_option maxHeartbeats 4000000
set_option linter.unusedVariables false
namespace Ev
def sumF (x : Nat) (b : Int) : Nat := ((x ^^^ b.toNat) * 16777619) % 4294967296
def Bytes (l : List Int) : Prop := ∀ b ∈ l, 0 ≤ b ∧ b < 256
def sumN (l : List Int) : Nat := l.foldl sumF 2166136261
theorem bv_nat (w n : Nat) : BitVec.ofInt w (n : Int) = BitVec.ofNat w n := BitVec.ofInt_natCast w n
theorem xor_lt32 {x b : Nat} (hx : x < 4294967296) (hb : b < 256) : x ^^^ b < 4294967296 := Nat.xor_lt_two_pow (n := 32) hx (by omega)
theorem xor64 {x : Nat} {b : Int} (hx : x < 4294967296) (h0 : 0 ≤ b) (h1 : b < 256) : IntKind.u64.wrap (BitVec.ofInt IntKind.u64.bits (x : Int) ^^^ BitVec.ofInt IntKind.u64.bits (IntKind.u64.wrap b)).toNat = ((x ^^^ b.toNat : Nat) : Int) := by
  obtain ⟨n, rfl⟩ := Int.eq_ofNat_of_zero_le h0
  have h1 : n < 256 := by omega
  rw [wrapU (n := n) (by omega), bv_nat, bv_nat, BitVec.toNat_xor, BitVec.toNat_ofNat, BitVec.toNat_ofNat]
  have h := xor_lt32 hx h1
  rw [show x % 2 ^ IntKind.u64.bits = x from Nat.mod_eq_of_lt (show x < 18446744073709551616 by omega), show n % 2 ^ IntKind.u64.bits = n from Nat.mod_eq_of_lt (show n < 18446744073709551616 by omega), wrapU (by omega)]
  rfl
theorem wrapU32 {n : Nat} (h : n < 4294967296) : IntKind.u32.wrap (n : Int) = n := by rw [IntKind.wrap_u32]; omega
theorem xor32 {x : Nat} {b : Int} (hx : x < 4294967296) (h0 : 0 ≤ b) (h1 : b < 256) : IntKind.u32.wrap (BitVec.ofInt IntKind.u32.bits (x : Int) ^^^ BitVec.ofInt IntKind.u32.bits (IntKind.u32.wrap b)).toNat = ((x ^^^ b.toNat : Nat) : Int) := by
  obtain ⟨n, rfl⟩ := Int.eq_ofNat_of_zero_le h0
  have h1 : n < 256 := by omega
  rw [wrapU32 (n := n) (by omega), bv_nat, bv_nat, BitVec.toNat_xor, BitVec.toNat_ofNat, BitVec.toNat_ofNat]
  have h := xor_lt32 hx h1
  rw [show x % 2 ^ IntKind.u32.bits = x from Nat.mod_eq_of_lt (show x < 4294967296 by omega), show n % 2 ^ IntKind.u32.bits = n from Nat.mod_eq_of_lt (show n < 4294967296 by omega), wrapU32 h]
  rfl
theorem sumF_lt (x : Nat) (b : Int) : sumF x b < 4294967296 := Nat.mod_lt _ (by decide)
theorem sum_step64 {x : Nat} {b : Int} (hx : x < 4294967296) (h0 : 0 ≤ b) (h1 : b < 256) : (IntKind.u64.wrap (IntKind.u64.wrap (BitVec.ofInt IntKind.u64.bits (x : Int) ^^^ BitVec.ofInt IntKind.u64.bits (IntKind.u64.wrap b)).toNat * 16777619)).tmod 4294967296 = (sumF x b : Int) := by
  rw [xor64 hx h0 h1]
  have h := xor_lt32 hx (show b.toNat < 256 by omega)
  unfold sumF
  generalize x ^^^ b.toNat = y at *
  rw [show ((y : Int) * 16777619) = ((y * 16777619 : Nat) : Int) by omega, wrapU (by omega), Int.tmod_eq_emod_of_nonneg (by omega)]
  omega
theorem sum_step32 {x : Nat} {b : Int} (hx : x < 4294967296) (h0 : 0 ≤ b) (h1 : b < 256) : IntKind.u32.wrap (IntKind.u32.wrap (BitVec.ofInt IntKind.u32.bits (x : Int) ^^^ BitVec.ofInt IntKind.u32.bits (IntKind.u32.wrap b)).toNat * 16777619) = (sumF x b : Int) := by
  rw [xor32 hx h0 h1]
  unfold sumF
  generalize x ^^^ b.toNat = y at *
  rw [IntKind.wrap_u32]
  omega
/-- The least bytes of a number, the least first. -/
def fixB : Nat → Nat → List Int
  | 0, _ => []
  | n + 1, u => ((u % 256 : Nat) : Int) :: fixB n (u / 256)
theorem fixB_len : ∀ n u, (fixB n u).length = n
  | 0, _ => rfl
  | n + 1, u => by rw [fixB, List.length_cons, fixB_len]
theorem fixB_bytes : ∀ n u, Bytes (fixB n u)
  | 0, _ => fun b hb => nomatch hb
  | n + 1, u => fun b hb => by
    rw [fixB] at hb
    rcases List.mem_cons.1 hb with rfl | hb
    · omega
    · exact fixB_bytes n _ b hb
theorem fix_spec {u : Nat} : IntKind.u8.wrap ((u : Int).tmod 256) = ((u % 256 : Nat) : Int) := by
  rw [Int.tmod_eq_emod_of_nonneg (by omega), IntKind.wrap_u8]; omega
theorem fix_quo {u : Nat} (h : u < 18446744073709551616) : IntKind.u64.wrap ((u : Int).tdiv 256) = ((u / 256 : Nat) : Int) := by
  rw [Int.tdiv_eq_ediv_of_nonneg (by omega), show (u : Int) / 256 = ((u / 256 : Nat) : Int) by omega, wrapU (by omega)]
theorem one_bytes {d own : Bool} (l : List Int) : OneEs d own (byteC l) := fun e he v hv => by
  unfold byteC at he
  obtain ⟨n, _, rfl⟩ := List.mem_map.1 he
  obtain rfl := List.mem_singleton.1 hv
  rfl
theorem byteC_app (l m : List Int) : byteC (l ++ m) = byteC l ++ byteC m := by unfold byteC; rw [List.map_append]
end Ev
open Go Ev
open Go.Proofs
set_option maxRecDepth 100000
set_option maxHeartbeats 4000000
set_option linter.unusedVariables false
namespace Ev
theorem fixB_snoc : ∀ (k u : Nat), fixB (k + 1) u = fixB k u ++ [((u / 256 ^ k % 256 : Nat) : Int)]
  | 0, u => by simp [fixB]
  | k + 1, u => by
    have h := fixB_snoc k (u / 256)
    have e : u / 256 / 256 ^ k = u / 256 ^ (k + 1) := by rw [Nat.div_div_eq_div_mul, Nat.pow_succ, Nat.mul_comm]
    rw [e] at h
    show ((u % 256 : Nat) : Int) :: fixB (k + 1) (u / 256) = _
    rw [h]
    rfl
theorem specPutFixed4 (x : Int) : Fn Try.prog [] 131 [.sc (.int .i64 x), .sc (.int .i64 4)] [] (ret [.own true 1 (byteC (fixB 4 (x % 18446744073709551616).toNat))] []) := by
  have hx : IntKind.u64.wrap x = ((x % 18446744073709551616).toNat : Int) := by show x % 18446744073709551616 = _; omega
  have hu : (x % 18446744073709551616).toNat < 18446744073709551616 := by omega
  generalize (x % 18446744073709551616).toNat = u0 at *
  refine fn_of Try.func131 (by kernel_rfl) ?_
  conv => whnf
  rw [hx]
  refine loop_of (A := Nat) (fun k => ⟨[(1, .sc (.int .i64 4)), (5, .hdr 0 []), (6, .sc (.int .u64 (u0 / 256 ^ k : Nat))), (7, .sc (.int .i64 k))], [(0, some ⟨byteC (fixB k u0), dpOf (cx 131) 5, 1, false⟩)], 1, Try.f131.ntmps, 0⟩) (fun k => 4 - k) (fun k => k ≤ 4) 0 (by rw [Nat.pow_zero, Nat.div_one]; rfl) (by decide) ?_
  intro k X hk ih
  conv => whnf
  refine ifP_of (fun h => ?_) (fun h => ?_)
  · have hk4 : k < 4 := by
      have := of_decide_eq_true h
      omega
    have ih := ih (k + 1) (by omega) (by omega)
    rw [fixB_snoc, byteC_app] at ih
    have hl : (byteC (fixB k u0)).length = k := by unfold byteC; rw [List.length_map, fixB_len]
    have hlt : u0 / 256 ^ k < 18446744073709551616 := Nat.lt_of_le_of_lt (Nat.div_le_self _ _) hu
    have hq : u0 / 256 ^ (k + 1) = u0 / 256 ^ k / 256 := by rw [Nat.pow_succ, Nat.div_div_eq_div_mul]
    rw [hq] at ih
    generalize byteC (fixB k u0) = es at *
    generalize u0 / 256 ^ k = u at *
    have h5 := fix_spec (u := u)
    have h6 := fix_quo hlt
    have hc : ((es.length + 1) * 1) ≤ 140737488355328 := by omega
    have hk1 : IntKind.i64.wrap ((k : Int) + 1) = ((k + 1 : Nat) : Int) := by rw [IntKind.wrap_i64]; omega
    rw [← h5, ← h6, ← hk1] at ih
    clear h
    conv => whnf
    refine ⟨fun e he v hv => by obtain rfl := List.mem_singleton.1 he; obtain rfl := List.mem_singleton.1 hv; rfl, ?_⟩
    conv => whnf
    refine chkP_of ?hchk ?_
    case hchk => first | exact decide_eq_true (by omega) | (simp; done) | (simp; omega) | exact decide_eq_true hc
    conv => whnf
    exact ih
  · have hk4 : k = 4 := by have : ¬ ((k : Int) < 4) := by simpa using h
                           omega
    subst hk4
    clear ih
    conv => whnf
    exact ⟨rfl, rfl⟩
end Ev
open Go Ev
open Go.Proofs
set_option maxRecDepth 100000
set_option maxHeartbeats 4000000
set_option linter.unusedVariables false
namespace Ev
/-- The flags of an Op, and of a Mod. -/
def obit (o : Opr) : Int := bitOf o.rep 1 + bitOf o.quick 2 + bitOf (decide ((o.tag.length : Int) > 0)) 4 + bitOf (decide ((o.inl.length : Int) > 0)) 8
def mbit (m : Modu) : Int := bitOf (decide ((m.jumps.length : Int) > 0)) 1 + bitOf m.cached 2
def opB (o : Opr) : List Int := vb o.num.toNat ++ (vb o.kind.toNat ++ (vb o.ref.toNat ++ (vb o.oneof.toNat ++ ([obit o] ++ vb o.run.toNat))))
def opsB (l : List Opr) : List Int := l.flatMap opB
def modB (m : Modu) : List Int := vb m.ops.length ++ ([mbit m] ++ opsB m.ops)
def modsB (l : List Modu) : List Int := l.flatMap modB
def bodyB (l : List Modu) : List Int := ([84, 87, 1] ++ vb l.length) ++ modsB l
noncomputable def tabB (l : List Modu) : List Int := if irS l = true then bodyB l ++ fixB 4 (sumN (bodyB l)) else []
theorem bit_le (c : Bool) {n : Int} (h : 0 ≤ n) : 0 ≤ bitOf c n ∧ bitOf c n ≤ n := by cases c <;> simp [bitOf, h]
theorem bit_wrap (c : Bool) {n : Int} (h : 0 ≤ n) (h2 : n ≤ 255) : IntKind.i64.wrap (bitOf c n) = bitOf c n := by have := bit_le c h; rw [wrap64 (by omega) (by omega)]
theorem obit_le (o : Opr) : 0 ≤ obit o ∧ obit o ≤ 15 := by
  have h1 := bit_le o.rep (n := 1) (by decide)
  have h2 := bit_le o.quick (n := 2) (by decide)
  have h3 := bit_le (decide ((o.tag.length : Int) > 0)) (n := 4) (by decide)
  have h4 := bit_le (decide ((o.inl.length : Int) > 0)) (n := 8) (by decide)
  unfold obit; omega
theorem mbit_le (m : Modu) : 0 ≤ mbit m ∧ mbit m ≤ 3 := by
  have h3 := bit_le (decide ((m.jumps.length : Int) > 0)) (n := 1) (by decide)
  have h4 := bit_le m.cached (n := 2) (by decide)
  unfold mbit; omega
theorem four_bits {a b c d : Int} (ha : 0 ≤ a ∧ a ≤ 1) (hb : 0 ≤ b ∧ b ≤ 2) (hc : 0 ≤ c ∧ c ≤ 4) (hd : 0 ≤ d ∧ d ≤ 8) : IntKind.u8.wrap (IntKind.i64.wrap (IntKind.i64.wrap (IntKind.i64.wrap (a + b) + c) + d)) = a + b + c + d := by
  rw [wrap64 (n := a + b) (by omega) (by omega), wrap64 (n := a + b + c) (by omega) (by omega), wrap64 (by omega) (by omega), IntKind.wrap_u8]; omega
theorem two_bits {a b : Int} (ha : 0 ≤ a ∧ a ≤ 1) (hb : 0 ≤ b ∧ b ≤ 2) : IntKind.u8.wrap (IntKind.i64.wrap (a + b)) = a + b := by
  rw [wrap64 (n := a + b) (by omega) (by omega), IntKind.wrap_u8]; omega
theorem vb_len : ∀ (k n : Nat), n < 128 ^ (k + 1) → (vb n).length ≤ k + 1
  | 0, n, h => by rw [vb_last (by omega)]; simp
  | k + 1, n, h => by
    by_cases h1 : n < 128
    · rw [vb_last h1]; simp
    · rw [vb_more (by omega), List.length_cons]
      have := vb_len k (n / 128) (by rw [Nat.pow_succ] at h; omega)
      omega
theorem vb_bytes (n : Nat) : Bytes (vb n) := by
  induction n using Nat.strongRecOn with
  | _ n ih =>
    by_cases h1 : n < 128
    · rw [vb_last h1]; intro b hb; obtain rfl := List.mem_singleton.1 hb; omega
    · rw [vb_more (by omega)]
      intro b hb
      rcases List.mem_cons.1 hb with rfl | hb
      · omega
      · exact ih _ (by omega) b hb
theorem Bytes.app {l m : List Int} (h : Bytes l) (h' : Bytes m) : Bytes (l ++ m) := fun b hb => (List.mem_append.1 hb).elim (h b) (h' b)
theorem Bytes.one {b : Int} (h : 0 ≤ b ∧ b < 256) : Bytes [b] := fun x hx => by obtain rfl := List.mem_singleton.1 hx; exact h
theorem Bytes.flat {α : Type} {f : α → List Int} {l : List α} (h : ∀ x ∈ l, Bytes (f x)) : Bytes (l.flatMap f) := fun b hb => by
  obtain ⟨x, hx, hb⟩ := List.mem_flatMap.1 hb
  exact h x hx b hb
theorem opB_bytes (o : Opr) : Bytes (opB o) := (vb_bytes _).app ((vb_bytes _).app ((vb_bytes _).app ((vb_bytes _).app ((Bytes.one (by have := obit_le o; omega)).app (vb_bytes _)))))
theorem modB_bytes (m : Modu) : Bytes (modB m) := (vb_bytes _).app ((Bytes.one (by have := mbit_le m; omega)).app (Bytes.flat fun o _ => opB_bytes o))
theorem body_bytes (l : List Modu) : Bytes (bodyB l) := Bytes.app (Bytes.app (fun b hb => by simp at hb; omega) (vb_bytes _)) (Bytes.flat fun m _ => modB_bytes m)
/-- An Op's numbers are small. -/
structure NiceO (o : Opr) : Prop where
  num : 0 ≤ o.num ∧ o.num < 536870912
  kind : 0 ≤ o.kind ∧ o.kind < 536870912
  ref : 0 ≤ o.ref ∧ o.ref < 536870912
  oneof : 0 ≤ o.oneof ∧ o.oneof < 536870912
  run : 0 ≤ o.run ∧ o.run < 536870912
structure NiceM (m : Modu) : Prop where
  len : m.ops.length ≤ 40
  all : ∀ o ∈ m.ops, NiceO o
theorem nice_of {l : List Modu} (h : irS l = true) : l.length ≤ 30 ∧ ∀ m ∈ l, NiceM m := by
  unfold irS at h
  rw [Bool.and_eq_true, Bool.and_eq_true] at h
  obtain ⟨h1, h2, h3⟩ := h
  rw [allAt_iff (l := l) (q := fun _ m => !decide ((m.ops.length : Int) > 40)) (p := shortAt l) (fun j => by unfold shortAt; cases l[j]? <;> rfl)] at h2
  rw [allAt_iff (l := l) (q := fun _ m => modS l m) (p := modAt l) (fun j => by unfold modAt; cases l[j]? <;> rfl)] at h3
  have h1 := inB_iff.1 h1
  refine ⟨by omega, fun m hm => ?_⟩
  obtain ⟨j, hj, rfl⟩ := List.getElem_of_mem hm
  have h2 := h2 j hj
  have h3 := h3 j hj
  generalize l[j] = m at *
  simp at h2
  unfold modS at h3
  rw [Bool.and_eq_true] at h3
  have h3 := h3.1
  rw [allAt_iff (l := m.ops) (q := fun j o => opOkB l m.ops j o) (p := opAtB l m.ops) (fun j => by unfold opAtB; cases m.ops[j]? <;> rfl)] at h3
  refine ⟨by omega, fun o ho => ?_⟩
  obtain ⟨i, hi, rfl⟩ := List.getElem_of_mem ho
  have h3 := h3 i hi
  generalize m.ops[i] = o at *
  unfold opOkB shapeOk runOk refsOf at h3
  simp only [Bool.and_eq_true, Bool.or_eq_true, inB_iff] at h3
  obtain ⟨⟨a1, a2, a3, a4, a5, a6⟩, b1, b2⟩ := h3
  unfold numB at a1
  simp only [Bool.and_eq_true, inB_iff] at a1
  refine ⟨by omega, by omega, ?_, by omega, ?_⟩
  · split at a4 <;> omega
  · rcases b2 with b2 | b2
    · have : o.run = 0 := by simpa using b2
      omega
    · omega
theorem opB_len {o : Opr} (h : NiceO o) : (opB o).length ≤ 31 := by
  have a1 := vb_len 5 o.num.toNat (by have := h.num; omega)
  have a2 := vb_len 5 o.kind.toNat (by have := h.kind; omega)
  have a3 := vb_len 5 o.ref.toNat (by have := h.ref; omega)
  have a4 := vb_len 5 o.oneof.toNat (by have := h.oneof; omega)
  have a5 := vb_len 5 o.run.toNat (by have := h.run; omega)
  unfold opB
  simp only [List.length_append, List.length_singleton]
  omega
theorem flat_len {α : Type} {f : α → List Int} {n : Nat} : ∀ {l : List α}, (∀ x ∈ l, (f x).length ≤ n) → (l.flatMap f).length ≤ l.length * n
  | [], _ => by simp
  | a :: l, h => by
    rw [List.flatMap_cons, List.length_append, List.length_cons, Nat.add_mul]
    have h1 := h a (List.mem_cons_self ..)
    have h2 := flat_len (f := f) (n := n) (l := l) (fun x hx => h x (List.mem_cons_of_mem _ hx))
    omega
theorem modB_len {m : Modu} (h : NiceM m) : (modB m).length ≤ 1247 := by
  have a1 := vb_len 5 m.ops.length (by have := h.len; omega)
  have a2 := flat_len (f := opB) (n := 31) (l := m.ops) (fun o ho => opB_len (h.all o ho))
  have := h.len
  unfold modB opsB
  simp only [List.length_append, List.length_singleton]
  omega
theorem body_len {l : List Modu} (h : irS l = true) : (bodyB l).length ≤ 40000 := by
  obtain ⟨h1, h2⟩ := nice_of h
  have a1 := vb_len 5 l.length (by omega)
  have a2 := flat_len (f := modB) (n := 1247) (l := l) (fun m hm => modB_len (h2 m hm))
  unfold bodyB modsB
  simp only [List.length_append, List.length_cons, List.length_nil]
  omega
end Ev
open Go Ev
open Go.Proofs
set_option maxRecDepth 100000
set_option maxHeartbeats 4000000
set_option linter.unusedVariables false
namespace Ev
theorem byteC_get' {l : List Int} {k : Nat} (h : k < l.length) : (byteC l)[((k : Nat) : Int).toNat]? = some [.sc (.int .u8 l[k])] := by rw [Int.toNat_natCast]; exact byteC_get h
theorem implSum32 (l : List Int) (hb : Bytes l) (hl : l.length ≤ 1048576) : Fn Try.prog [] 70 [.sh 1 (byteC l)] [] (ret [.sc (.int .i64 (sumN l : Nat))] []) := by
  have hlen := byteC_len l
  obtain ⟨s0, hs0⟩ : ∃ s : Nat, s = 2166136261 := ⟨_, rfl⟩
  have h0 : l.foldl sumF s0 = sumN l := by rw [hs0]; rfl
  have hs : s0 < 4294967296 := by omega
  have hc : (2166136261 : Int) = (s0 : Int) := by rw [hs0]; rfl
  generalize sumN l = R at *
  refine fn_of Try.func70 (by kernel_rfl) ?_
  conv => whnf
  rw [hc, hlen]
  clear hs0 hc
  refine loop_of (A := Nat × Nat) (fun x => ⟨[(3, .sc (.int .u32 (x.2 : Nat))), (6, .sh 1 (byteC l)), (7, .sc (.int .i64 l.length)), (8, .sc (.int .i64 (x.1 : Nat)))], [], 0, 20, 0⟩) (fun x => l.length - x.1) (fun x => x.1 ≤ l.length ∧ x.2 < 4294967296 ∧ (l.drop x.1).foldl sumF x.2 = R) (0, s0) rfl ⟨Nat.zero_le _, hs, h0⟩ ?_
  intro ⟨k, s⟩ ⟨hk, hs, hr⟩ X ih
  dsimp only at hk hs hr
  conv => whnf
  refine ifP_of (fun h => ?_) (fun h => ?_)
  · have hk2 : k < l.length := by have := of_decide_eq_true h; dsimp only at this; omega
    have hw : IntKind.i64.wrap ((k : Int) + 1) = ((k + 1 : Nat) : Int) := by rw [wrap64 (by omega) (by omega)]; omega
    rw [List.drop_eq_getElem_cons hk2, List.foldl_cons] at hr
    have hbb := hb _ (List.getElem_mem hk2)
    have hg := byteC_get' hk2
    generalize l[k] = b at *
    conv => whnf
    refine optP_of (hg) ?_
    conv => whnf
    have fin := ih (k + 1, sumF s b) ⟨by dsimp only; omega, sumF_lt _ _, hr⟩ (by dsimp only; omega)
    dsimp only at fin
    rw [← hw, ← sum_step32 hs hbb.1 hbb.2] at fin
    exact fin
  · have hk2 : k = l.length := by have := of_decide_eq_false h; dsimp only at this; omega
    subst hk2
    rw [List.drop_eq_nil_of_le (Nat.le_refl _)] at hr
    conv => whnf
    refine ⟨il ?_, rfl⟩
    rw [wrap64 (by omega) (by omega)]
    show ((s : Nat) : Int) = _
    rw [← hr]; rfl
theorem implFix_b {x : Nat} (hx : x < 4294967296) {k : Nat} (hk : k < 4) : IntKind.u8.wrap ((x : Int).fdiv (2 ^ (min ((8 * k : Nat) : Int).toNat IntKind.i64.bits))) = ((x / 256 ^ k % 256 : Nat) : Int) := by
  have hb : IntKind.i64.bits = 64 := rfl
  have e : ((2 : Int) ^ (8 * k)) = ((256 ^ k : Nat) : Int) := by rw [show (256 : Nat) = 2 ^ 8 from rfl, ← Nat.pow_mul, Int.natCast_pow]; rfl
  have h : (0 : Int) ≤ ((256 ^ k : Nat) : Int) := Int.natCast_nonneg _
  rw [hb, show min ((8 * k : Nat) : Int).toNat 64 = 8 * k by omega, e, IntKind.wrap_u8, Int.fdiv_eq_ediv_of_nonneg _ h, ← Int.natCast_ediv]
  omega
theorem implPutFixed4 (x : Nat) (hx : x < 4294967296) : Fn Try.prog [] 69 [.sc (.int .i64 x), .sc (.int .i64 4)] [] (ret [.own true 1 (byteC (fixB 4 x))] []) := by
  refine fn_of Try.func69 (by kernel_rfl) ?_
  conv => whnf
  refine loop_of (A := Nat) (fun k => ⟨[(0, .sc (.int .i64 x)), (1, .sc (.int .i64 4)), (5, .hdr 0 []), (6, .sc (.int .i64 k))], [(0, some ⟨byteC (fixB k x), true, 1, false⟩)], 1, 27, 0⟩) (fun k => 4 - k) (fun k => k ≤ 4) 0 rfl (by decide) ?_
  intro k hk X ih
  conv => whnf
  refine ifP_of (fun h => ?_) (fun h => ?_)
  · have hk4 : k < 4 := by
      have := of_decide_eq_true h
      omega
    have ih := ih (k + 1) (by omega) (by omega)
    rw [fixB_snoc, byteC_app] at ih
    have hl : (byteC (fixB k x)).length = k := by rw [byteC_len, fixB_len]
    have h5 := implFix_b hx hk4
    generalize byteC (fixB k x) = es at *
    have hc : ((es.length + 1) * 1) ≤ 140737488355328 := by omega
    have hk1 : IntKind.i64.wrap ((k : Int) + 1) = ((k + 1 : Nat) : Int) := by rw [IntKind.wrap_i64]; omega
    rw [← h5, ← hk1] at ih
    have h8 : IntKind.i64.wrap (8 * (k : Int)) = ((8 * k : Nat) : Int) := by rw [wrap64 (by omega) (by omega)]; omega
    clear h
    conv => whnf
    rw [h8]
    conv => whnf
    refine ⟨oneB _, ?_⟩
    conv => whnf
    refine chkP_of ?hchk ?_
    case hchk => first | exact decide_eq_true (by omega) | (simp; done) | (simp; omega) | exact decide_eq_true hc
    conv => whnf
    exact ih
  · have hk4 : k = 4 := by have : ¬ ((k : Int) < 4) := by simpa using h
                           omega
    subst hk4
    clear ih
    conv => whnf
    exact ⟨rfl, rfl⟩
end Ev
open Go Ev
open Go.Proofs
set_option maxRecDepth 100000
set_option maxHeartbeats 4000000
set_option linter.unusedVariables false
namespace Ev
theorem specSum (l : List Int) (hb : Bytes l) (hl : l.length ≤ 1048576) : Fn Try.prog [] 66 [.sh 1 (byteC l)] [] (ret [.own true 1 (byteC (fixB 4 (sumN l)))] []) := by
  have hlen := byteC_len l
  obtain ⟨s0, hs0⟩ : ∃ s : Nat, s = 2166136261 := ⟨_, rfl⟩
  have h0 : l.foldl sumF s0 = sumN l := by rw [hs0]; rfl
  have hs : s0 < 4294967296 := by omega
  have hc : (2166136261 : Int) = (s0 : Int) := by rw [hs0]; rfl
  generalize sumN l = R at *
  refine fn_of Try.func66 (by kernel_rfl) ?_
  conv => whnf
  rw [hc]
  clear hs0 hc
  refine loop_of (A := Nat × Nat) (fun x => ⟨[(0, .sh 1 (byteC l)), (3, .sc (.int .u64 (x.2 : Nat))), (4, .sc (.int .i64 (x.1 : Nat)))], [], 0, 23, 0⟩) (fun x => l.length - x.1) (fun x => x.1 ≤ l.length ∧ x.2 < 4294967296 ∧ (l.drop x.1).foldl sumF x.2 = R) (0, s0) rfl ⟨Nat.zero_le _, hs, h0⟩ ?_
  intro ⟨k, s⟩ ⟨hk, hs, hr⟩ X ih
  dsimp only at hk hs hr
  conv => whnf
  rw [hlen]
  conv => whnf
  refine ifP_of (fun h => ?_) (fun h => ?_)
  · have hk2 : k < l.length := by have := of_decide_eq_true h; dsimp only at this; omega
    have hw : IntKind.i64.wrap ((k : Int) + 1) = ((k + 1 : Nat) : Int) := by rw [wrap64 (by omega) (by omega)]; omega
    rw [List.drop_eq_getElem_cons hk2, List.foldl_cons] at hr
    have hbb := hb _ (List.getElem_mem hk2)
    have hg := byteC_get' hk2
    generalize l[k] = b at *
    conv => whnf
    refine optP_of (hg) ?_
    conv => whnf
    have fin := ih (k + 1, sumF s b) ⟨by dsimp only; omega, sumF_lt _ _, hr⟩ (by dsimp only; omega)
    dsimp only at fin
    rw [← hw, ← sum_step64 hs hbb.1 hbb.2] at fin
    exact fin
  · have hk2 : k = l.length := by have := of_decide_eq_false h; dsimp only at this; omega
    subst hk2
    rw [List.drop_eq_nil_of_le (Nat.le_refl _)] at hr
    have hr : s = R := hr
    subst hr
    conv => whnf
    rw [wrap64 (by omega) (by omega)]
    have H := specPutFixed4 ((s : Nat) : Int)
    rw [show (((s : Nat) : Int) % 18446744073709551616).toNat = s by omega] at H
    refine Fn.use (H) ?_
    conv => whnf
    first | refine ⟨trivial, ?_⟩ | refine ⟨⟨rfl, clr_of rfl⟩, ?_⟩
    conv => whnf
    exact ⟨rfl, rfl⟩
theorem canonK_at {l : List Nat} {t S0 : St} {K : St → Prop} (h : canonK l t fun u => u = S0) (k : K S0) : canonK l t K := by
  rw [canonK_eq] at h ⊢
  rw [h]; exact k
theorem clr_bytes {d : Bool} {n : Nat} {l : List Int} : ClR [.own d n (byteC l)] := clr_own fun e he v hv => by
  unfold byteC at he
  obtain ⟨b, _, rfl⟩ := List.mem_map.1 he
  obtain rfl := List.mem_singleton.1 hv
  exact ⟨_, rfl⟩
/-- What is to be written fits. -/
theorem fits {out b rest R : List Int} (h : out ++ (b ++ rest) = R) (hR : R.length ≤ 40000) : ((byteC out).length + (byteC b).length) * 1 ≤ 140737488355328 := by
  rw [← h, List.length_append, List.length_append] at hR
  rw [byteC_len, byteC_len]; omega
end Ev
open Go Ev
open Go.Proofs
set_option maxRecDepth 100000
set_option maxHeartbeats 4000000
set_option linter.unusedVariables false
namespace Ev
theorem specPutTable (mods : List Modu) (hs : Small mods) : Fn Try.prog [] 21 [.agg [.sh 3 (Modu.css mods)]] [] (ret [.own true 1 (byteC (tabB mods))] []) := by
  have hl := Modu.css_len mods
  have H := specIrOk mods hs
  have ht : tabB mods = if irS mods = true then bodyB mods ++ fixB 4 (sumN (bodyB mods)) else [] := rfl
  have hn := fun h => nice_of (l := mods) h
  have hbl := fun h => body_len (l := mods) h
  have hby := body_bytes mods
  have hb0 : ([84, 87, 1] ++ vb mods.length) ++ modsB mods = bodyB mods := rfl
  generalize irS mods = c at *
  generalize tabB mods = R at *
  generalize bodyB mods = B at *
  refine fn_of Try.func21 d21 ?_
  conv => whnf
  refine Fn.use (H) ?_
  conv => whnf
  first | refine ⟨trivial, ?_⟩ | refine ⟨⟨rfl, clr_of rfl⟩, ?_⟩
  conv => whnf
  refine ifP_of (fun h => ?_) (fun h => ?_)
  · have h : c = false := by simpa using h
    subst h
    have ht : R = [] := ht
    subst ht
    conv => whnf
    exact ⟨rfl, rfl⟩
  have h : c = true := by simpa using h
  subst h
  rw [if_pos rfl] at ht
  obtain ⟨hm, hn⟩ := hn rfl
  have hbl := hbl rfl
  have hBl := hbl
  conv => whnf
  rw [hl]
  refine Fn.use (specPutVarint mods.length (by omega)) ?_
  conv => whnf
  first | refine ⟨trivial, ?_⟩ | refine ⟨⟨rfl, clr_of rfl⟩, ?_⟩
  conv => whnf
  refine ⟨one_bytes _, ?_⟩
  conv => whnf
  refine chkP_of ?hchk ?_
  case hchk => first | exact decide_eq_true (by omega) | (simp; done) | (simp; omega) | exact decide_eq_true (fits (b := vb mods.length) (out := [84, 87, 1]) (rest := modsB mods) (by rw [← List.append_assoc]; exact hb0) hbl)
  conv => whnf
  refine loop_of (A := Nat × List Int) (fun x => ⟨[(1, .ptr 0 [] 0 0), (3, .hdr 1 []), (4, .sc (.int .i64 (x.1 : Nat)))], [(0, some ⟨[[.sh 3 (Modu.css mods)]], true, 1, true⟩), (1, some ⟨byteC x.2, true, 1, false⟩)], 2, 109, 0⟩) (fun x => mods.length - x.1) (fun x => x.1 ≤ mods.length ∧ x.2 ++ modsB (mods.drop x.1) = B) (0, [84, 87, 1] ++ vb mods.length) rfl ⟨Nat.zero_le _, hb0⟩ ?_
  clear hb0
  intro ⟨k, out⟩ ⟨hk, hout⟩ X ih
  dsimp only at hk hout
  conv => whnf
  rw [hl]
  conv => whnf
  refine ifP_of (fun h2 => ?_) (fun h2 => ?_)
  rotate_left
  · have h2 : k = mods.length := by have := of_decide_eq_false h2; dsimp only at this; omega
    subst h2
    rw [List.drop_eq_nil_of_le (Nat.le_refl _)] at hout
    have hout : out ++ [] = B := hout
    rw [List.append_nil] at hout
    subst hout
    have HS := specSum out hby (by omega)
    generalize hF : fixB 4 (sumN out) = F at *
    have hF4 : F.length = 4 := by rw [← hF, fixB_len]
    have hc : ((byteC out).length + (byteC F).length) * 1 ≤ 140737488355328 := by rw [byteC_len, byteC_len]; omega
    conv => whnf
    refine Fn.use HS ?_
    refine ⟨⟨rfl, clr_bytes⟩, ?_⟩
    conv => whnf
    refine ⟨one_bytes _, ?_⟩
    conv => whnf
    refine chkP_of ?hchk ?_
    case hchk => first | exact decide_eq_true (by omega) | (simp; done) | (simp; omega) | exact decide_eq_true hc
    conv => whnf
    refine ⟨?_, rfl⟩
    rw [ht, byteC_app]
  have h2 : k < mods.length := by have := of_decide_eq_true h2; dsimp only at this; omega
  have hw : IntKind.i64.wrap ((k : Int) + 1) = ((k + 1 : Nat) : Int) := by rw [wrap64 (by omega) (by omega)]; omega
  have hnm := hn _ (List.getElem_mem h2)
  have hg := Modu.css_get h2
  rw [List.drop_eq_getElem_cons h2] at hout
  generalize mods[k] = m at *
  obtain ⟨ops, jumps, cached⟩ := m
  obtain ⟨ho, hno⟩ := hnm
  dsimp only at ho hno
  have hlo := Opr.css_len ops
  have hlj := intC_len jumps
  have hout : out ++ ((vb ops.length ++ ([mbit ⟨ops, jumps, cached⟩] ++ opsB ops)) ++ modsB (mods.drop (k + 1))) = B := hout
  rw [List.append_assoc, List.append_assoc] at hout
  have f1 := fits hout hbl
  rw [← List.append_assoc] at hout
  have f2 := fits hout hbl
  rw [← List.append_assoc] at hout
  have hbit : mbit ⟨ops, jumps, cached⟩ = bitOf (decide (((intC jumps).length : Int) > 0)) 1 + bitOf cached 2 := by rw [hlj]; rfl
  have hb1 := bit_le (decide (((intC jumps).length : Int) > 0)) (n := 1) (by decide)
  have hb2 := bit_le cached (n := 2) (by decide)
  have h2b := two_bits hb1 hb2
  have HB1 := specBit (decide (((intC jumps).length : Int) > 0)) 1
  have HB2 := specBit cached 2
  generalize bitOf (decide (((intC jumps).length : Int) > 0)) 1 = b1 at *
  generalize bitOf cached 2 = b2 at *
  rw [hbit] at hout f2
  clear hbit
  have HV := specPutVarint ops.length (by omega)
  generalize hvv : vb ops.length = vv at *
  conv => whnf
  refine optP_of (hg) ?_
  conv => whnf
  rw [byteC_app] at f2
  have fin : ∀ X : St → Prop, X ⟨[(1, .ptr 0 [] 0 0), (3, .hdr 1 []), (4, .sc (.int .i64 k)), (5, .ptr 2 [] 0 0)], [(0, some ⟨[[.sh 3 (Modu.css mods)]], true, 1, true⟩), (1, some ⟨byteC ((out ++ vv) ++ [b1 + b2]), true, 1, false⟩), (2, some ⟨[[.sh 9 (Opr.css ops), .sh 1 (intC jumps), .sc (.bool cached)]], true, 3, true⟩)], 3, 109, 0⟩ → X ⟨[(1, .ptr 0 [] 0 0), (3, .hdr 1 []), (4, .sc (.int .i64 k)), (5, .ptr 2 [] 0 0)], [(0, some ⟨[[.sh 3 (Modu.css mods)]], true, 1, true⟩), (1, some ⟨(byteC out ++ byteC vv) ++ [[.sc (.int .u8 (b1 + b2))]], true, 1, false⟩), (2, some ⟨[[.sh 9 (Opr.css ops), .sh 1 (intC jumps), .sc (.bool cached)]], true, 3, true⟩)], 3, 109, 0⟩ := fun X h => by rw [byteC_app, byteC_app] at h; exact h
  refine regP_by (fun t => t = ⟨[(1, .ptr 0 [] 0 0), (3, .hdr 1 []), (4, .sc (.int .i64 k)), (5, .ptr 2 [] 0 0)], [(0, some ⟨[[.sh 3 (Modu.css mods)]], true, 1, true⟩), (1, some ⟨(byteC out ++ byteC vv) ++ [[.sc (.int .u8 (b1 + b2))]], true, 1, false⟩), (2, some ⟨[[.sh 9 (Opr.css ops), .sh 1 (intC jumps), .sc (.bool cached)]], true, 3, true⟩)], 3, 109, 0⟩) ?_ ?_
  · conv => whnf
    refine regP_go ?_
    conv => whnf
    rw [hlo]
    conv => whnf
    refine And.intro ?_ ?_
    · conv => whnf
      refine Fn.use (HV) ?_
      conv => whnf
      first | refine ⟨trivial, ?_⟩ | refine ⟨⟨rfl, clr_of rfl⟩, ?_⟩
      conv => whnf
      refine And.intro ?_ ?_
      · conv => whnf
        refine ⟨one_bytes _, ?_⟩
        conv => whnf
        refine chkP_of ?hchk ?_
        case hchk => first | exact decide_eq_true (by omega) | (simp; done) | (simp; omega) | exact decide_eq_true f1
        conv => whnf
        refine Fn.use (HB1) ?_
        conv => whnf
        first | refine ⟨trivial, ?_⟩ | refine ⟨⟨rfl, clr_of rfl⟩, ?_⟩
        conv => whnf
        refine Fn.use (HB2) ?_
        conv => whnf
        first | refine ⟨trivial, ?_⟩ | refine ⟨⟨rfl, clr_of rfl⟩, ?_⟩
        conv => whnf
        rw [h2b]
        conv => whnf
        refine ⟨oneB _, ?_⟩
        conv => whnf
        refine chkP_of ?hchk ?_
        case hchk => first | exact decide_eq_true (by omega) | (simp; done) | (simp; omega) | exact decide_eq_true f2
        conv => whnf
        done
      · conv => whnf
        refine And.intro ?_ ?_
        · conv => whnf
          refine And.intro ?_ ?_
          · conv => whnf
            refine ⟨one_bytes _, ?_⟩
            conv => whnf
            refine chkP_of ?hchk ?_
            case hchk => first | exact decide_eq_true (by omega) | (simp; done) | (simp; omega) | exact decide_eq_true f1
            conv => whnf
            refine Fn.use (HB1) ?_
            conv => whnf
            first | refine ⟨trivial, ?_⟩ | refine ⟨⟨rfl, clr_of rfl⟩, ?_⟩
            conv => whnf
            refine Fn.use (HB2) ?_
            conv => whnf
            first | refine ⟨trivial, ?_⟩ | refine ⟨⟨rfl, clr_of rfl⟩, ?_⟩
            conv => whnf
            rw [h2b]
            conv => whnf
            refine ⟨oneB _, ?_⟩
            conv => whnf
            refine chkP_of ?hchk ?_
            case hchk => first | exact decide_eq_true (by omega) | (simp; done) | (simp; omega) | exact decide_eq_true f2
            conv => whnf
            done
          · conv => whnf
            refine And.intro ?_ ?_
            · conv => whnf
              refine ⟨one_bytes _, ?_⟩
              conv => whnf
              refine chkP_of ?hchk ?_
              case hchk => first | exact decide_eq_true (by omega) | (simp; done) | (simp; omega) | exact decide_eq_true f1
              conv => whnf
              refine Fn.use (HB1) ?_
              conv => whnf
              first | refine ⟨trivial, ?_⟩ | refine ⟨⟨rfl, clr_of rfl⟩, ?_⟩
              conv => whnf
              refine Fn.use (HB2) ?_
              conv => whnf
              first | refine ⟨trivial, ?_⟩ | refine ⟨⟨rfl, clr_of rfl⟩, ?_⟩
              conv => whnf
              rw [h2b]
              conv => whnf
              refine ⟨oneB _, ?_⟩
              conv => whnf
              refine chkP_of ?hchk ?_
              case hchk => first | exact decide_eq_true (by omega) | (simp; done) | (simp; omega) | exact decide_eq_true f2
              conv => whnf
              done
            · exact trivial
        · conv => whnf
          refine And.intro ?_ ?_
          · conv => whnf
            refine And.intro ?_ ?_
            · conv => whnf
              refine ⟨one_bytes _, ?_⟩
              conv => whnf
              refine chkP_of ?hchk ?_
              case hchk => first | exact decide_eq_true (by omega) | (simp; done) | (simp; omega) | exact decide_eq_true f1
              conv => whnf
              refine Fn.use (HB1) ?_
              conv => whnf
              first | refine ⟨trivial, ?_⟩ | refine ⟨⟨rfl, clr_of rfl⟩, ?_⟩
              conv => whnf
              refine Fn.use (HB2) ?_
              conv => whnf
              first | refine ⟨trivial, ?_⟩ | refine ⟨⟨rfl, clr_of rfl⟩, ?_⟩
              conv => whnf
              rw [h2b]
              conv => whnf
              refine ⟨oneB _, ?_⟩
              conv => whnf
              refine chkP_of ?hchk ?_
              case hchk => first | exact decide_eq_true (by omega) | (simp; done) | (simp; omega) | exact decide_eq_true f2
              conv => whnf
              done
            · conv => whnf
              refine And.intro ?_ ?_
              · conv => whnf
                refine ⟨one_bytes _, ?_⟩
                conv => whnf
                refine chkP_of ?hchk ?_
                case hchk => first | exact decide_eq_true (by omega) | (simp; done) | (simp; omega) | exact decide_eq_true f1
                conv => whnf
                refine Fn.use (HB1) ?_
                conv => whnf
                first | refine ⟨trivial, ?_⟩ | refine ⟨⟨rfl, clr_of rfl⟩, ?_⟩
                conv => whnf
                refine Fn.use (HB2) ?_
                conv => whnf
                first | refine ⟨trivial, ?_⟩ | refine ⟨⟨rfl, clr_of rfl⟩, ?_⟩
                conv => whnf
                rw [h2b]
                conv => whnf
                refine ⟨oneB _, ?_⟩
                conv => whnf
                refine chkP_of ?hchk ?_
                case hchk => first | exact decide_eq_true (by omega) | (simp; done) | (simp; omega) | exact decide_eq_true f2
                conv => whnf
                done
              · exact trivial
          · exact trivial
    · conv => whnf
      refine And.intro ?_ ?_
      · conv => whnf
        refine And.intro ?_ ?_
        · conv => whnf
          refine Fn.use (HV) ?_
          conv => whnf
          first | refine ⟨trivial, ?_⟩ | refine ⟨⟨rfl, clr_of rfl⟩, ?_⟩
          conv => whnf
          refine And.intro ?_ ?_
          · conv => whnf
            refine ⟨one_bytes _, ?_⟩
            conv => whnf
            refine chkP_of ?hchk ?_
            case hchk => first | exact decide_eq_true (by omega) | (simp; done) | (simp; omega) | exact decide_eq_true f1
            conv => whnf
            refine Fn.use (HB1) ?_
            conv => whnf
            first | refine ⟨trivial, ?_⟩ | refine ⟨⟨rfl, clr_of rfl⟩, ?_⟩
            conv => whnf
            refine Fn.use (HB2) ?_
            conv => whnf
            first | refine ⟨trivial, ?_⟩ | refine ⟨⟨rfl, clr_of rfl⟩, ?_⟩
            conv => whnf
            rw [h2b]
            conv => whnf
            refine ⟨oneB _, ?_⟩
            conv => whnf
            refine chkP_of ?hchk ?_
            case hchk => first | exact decide_eq_true (by omega) | (simp; done) | (simp; omega) | exact decide_eq_true f2
            conv => whnf
            done
          · conv => whnf
            refine And.intro ?_ ?_
            · conv => whnf
              refine ⟨one_bytes _, ?_⟩
              conv => whnf
              refine chkP_of ?hchk ?_
              case hchk => first | exact decide_eq_true (by omega) | (simp; done) | (simp; omega) | exact decide_eq_true f1
              conv => whnf
              refine Fn.use (HB1) ?_
              conv => whnf
              first | refine ⟨trivial, ?_⟩ | refine ⟨⟨rfl, clr_of rfl⟩, ?_⟩
              conv => whnf
              refine Fn.use (HB2) ?_
              conv => whnf
              first | refine ⟨trivial, ?_⟩ | refine ⟨⟨rfl, clr_of rfl⟩, ?_⟩
              conv => whnf
              rw [h2b]
              conv => whnf
              refine ⟨oneB _, ?_⟩
              conv => whnf
              refine chkP_of ?hchk ?_
              case hchk => first | exact decide_eq_true (by omega) | (simp; done) | (simp; omega) | exact decide_eq_true f2
              conv => whnf
              done
            · exact trivial
        · conv => whnf
          refine And.intro ?_ ?_
          · conv => whnf
            refine Fn.use (HV) ?_
            conv => whnf
            first | refine ⟨trivial, ?_⟩ | refine ⟨⟨rfl, clr_of rfl⟩, ?_⟩
            conv => whnf
            refine ⟨one_bytes _, ?_⟩
            conv => whnf
            refine chkP_of ?hchk ?_
            case hchk => first | exact decide_eq_true (by omega) | (simp; done) | (simp; omega) | exact decide_eq_true f1
            conv => whnf
            refine Fn.use (HB1) ?_
            conv => whnf
            first | refine ⟨trivial, ?_⟩ | refine ⟨⟨rfl, clr_of rfl⟩, ?_⟩
            conv => whnf
            refine Fn.use (HB2) ?_
            conv => whnf
            first | refine ⟨trivial, ?_⟩ | refine ⟨⟨rfl, clr_of rfl⟩, ?_⟩
            conv => whnf
            rw [h2b]
            conv => whnf
            refine ⟨oneB _, ?_⟩
            conv => whnf
            refine chkP_of ?hchk ?_
            case hchk => first | exact decide_eq_true (by omega) | (simp; done) | (simp; omega) | exact decide_eq_true f2
            conv => whnf
            done
          · exact trivial
      · conv => whnf
        refine And.intro ?_ ?_
        · conv => whnf
          refine And.intro ?_ ?_
          · conv => whnf
            refine Fn.use (HV) ?_
            conv => whnf
            first | refine ⟨trivial, ?_⟩ | refine ⟨⟨rfl, clr_of rfl⟩, ?_⟩
            conv => whnf
            refine And.intro ?_ ?_
            · conv => whnf
              refine ⟨one_bytes _, ?_⟩
              conv => whnf
              refine chkP_of ?hchk ?_
              case hchk => first | exact decide_eq_true (by omega) | (simp; done) | (simp; omega) | exact decide_eq_true f1
              conv => whnf
              refine Fn.use (HB1) ?_
              conv => whnf
              first | refine ⟨trivial, ?_⟩ | refine ⟨⟨rfl, clr_of rfl⟩, ?_⟩
              conv => whnf
              refine Fn.use (HB2) ?_
              conv => whnf
              first | refine ⟨trivial, ?_⟩ | refine ⟨⟨rfl, clr_of rfl⟩, ?_⟩
              conv => whnf
              rw [h2b]
              conv => whnf
              refine ⟨oneB _, ?_⟩
              conv => whnf
              refine chkP_of ?hchk ?_
              case hchk => first | exact decide_eq_true (by omega) | (simp; done) | (simp; omega) | exact decide_eq_true f2
              conv => whnf
              done
            · conv => whnf
              refine And.intro ?_ ?_
              · conv => whnf
                refine ⟨one_bytes _, ?_⟩
                conv => whnf
                refine chkP_of ?hchk ?_
                case hchk => first | exact decide_eq_true (by omega) | (simp; done) | (simp; omega) | exact decide_eq_true f1
                conv => whnf
                refine Fn.use (HB1) ?_
                conv => whnf
                first | refine ⟨trivial, ?_⟩ | refine ⟨⟨rfl, clr_of rfl⟩, ?_⟩
                conv => whnf
                refine Fn.use (HB2) ?_
                conv => whnf
                first | refine ⟨trivial, ?_⟩ | refine ⟨⟨rfl, clr_of rfl⟩, ?_⟩
                conv => whnf
                rw [h2b]
                conv => whnf
                refine ⟨oneB _, ?_⟩
                conv => whnf
                refine chkP_of ?hchk ?_
                case hchk => first | exact decide_eq_true (by omega) | (simp; done) | (simp; omega) | exact decide_eq_true f2
                conv => whnf
                done
              · exact trivial
          · conv => whnf
            refine And.intro ?_ ?_
            · conv => whnf
              refine Fn.use (HV) ?_
              conv => whnf
              first | refine ⟨trivial, ?_⟩ | refine ⟨⟨rfl, clr_of rfl⟩, ?_⟩
              conv => whnf
              refine ⟨one_bytes _, ?_⟩
              conv => whnf
              refine chkP_of ?hchk ?_
              case hchk => first | exact decide_eq_true (by omega) | (simp; done) | (simp; omega) | exact decide_eq_true f1
              conv => whnf
              refine Fn.use (HB1) ?_
              conv => whnf
              first | refine ⟨trivial, ?_⟩ | refine ⟨⟨rfl, clr_of rfl⟩, ?_⟩
              conv => whnf
              refine Fn.use (HB2) ?_
              conv => whnf
              first | refine ⟨trivial, ?_⟩ | refine ⟨⟨rfl, clr_of rfl⟩, ?_⟩
              conv => whnf
              rw [h2b]
              conv => whnf
              refine ⟨oneB _, ?_⟩
              conv => whnf
              refine chkP_of ?hchk ?_
              case hchk => first | exact decide_eq_true (by omega) | (simp; done) | (simp; omega) | exact decide_eq_true f2
              conv => whnf
              done
            · exact trivial
        · exact trivial
  rintro t rfl
  refine fin _ ?_
  clear fin HB1 HB2 h2b hb1 hb2 f1 f2 HV
  conv => whnf
  have hout : ((out ++ vv) ++ [b1 + b2]) ++ (opsB ops ++ modsB (mods.drop (k + 1))) = B := hout
  generalize (out ++ vv) ++ [b1 + b2] = out0 at *
  clear hvv
  refine loop_of (A := Nat × List Int) (fun x => ⟨[(1, .ptr 0 [] 0 0), (3, .hdr 1 []), (4, .sc (.int .i64 k)), (5, .ptr 2 [] 0 0), (6, .sc (.int .i64 (x.1 : Nat)))], [(0, some ⟨[[.sh 3 (Modu.css mods)]], true, 1, true⟩), (1, some ⟨byteC x.2, true, 1, false⟩), (2, some ⟨[[.sh 9 (Opr.css ops), .sh 1 (intC jumps), .sc (.bool cached)]], true, 3, true⟩)], 3, 109, 0⟩) (fun x => ops.length - x.1) (fun x => x.1 ≤ ops.length ∧ x.2 ++ (opsB (ops.drop x.1) ++ modsB (mods.drop (k + 1))) = B) (0, out0) rfl ⟨Nat.zero_le _, hout⟩ ?_
  intro ⟨i, out⟩ ⟨hi, hout⟩ Y ih2
  dsimp only at hi hout
  conv => whnf
  rw [hlo]
  conv => whnf
  refine ifP_of (fun h3 => ?_) (fun h3 => ?_)
  rotate_left
  · have h3 : i = ops.length := by have := of_decide_eq_false h3; dsimp only at this; omega
    subst h3
    rw [List.drop_eq_nil_of_le (Nat.le_refl _)] at hout
    conv => whnf
    have fin := ih (k + 1, out) ⟨by dsimp only; omega, hout⟩ (by dsimp only; omega)
    dsimp only at fin
    rw [← hw] at fin
    exact fin
  clear ih
  have h3 : i < ops.length := by have := of_decide_eq_true h3; dsimp only at this; omega
  have hw3 : IntKind.i64.wrap ((i : Int) + 1) = ((i + 1 : Nat) : Int) := by rw [wrap64 (by omega) (by omega)]; omega
  have hno := hno _ (List.getElem_mem h3)
  have hgo := Opr.css_get h3
  rw [List.drop_eq_getElem_cons h3] at hout
  generalize ops[i] = o at *
  obtain ⟨num, kind, ref, rep, oneof, tag, quick, run, inl⟩ := o
  obtain ⟨n1, n2, n3, n4, n5⟩ := hno
  dsimp only at n1 n2 n3 n4 n5
  have lt := byteC_len tag
  have li := Opr.css_len inl
  have hout : out ++ ((vb num.toNat ++ (vb kind.toNat ++ (vb ref.toNat ++ (vb oneof.toNat ++ ([obit ⟨num, kind, ref, rep, oneof, tag, quick, run, inl⟩] ++ vb run.toNat)))) ++ opsB (ops.drop (i + 1))) ++ modsB (mods.drop (k + 1))) = B := hout
  have hfin : ∀ out', out' ++ (opsB (ops.drop (i + 1)) ++ modsB (mods.drop (k + 1))) = B → Y _ := fun out' h => ih2 (i + 1, out') ⟨by dsimp only; omega, h⟩ (by dsimp only; omega)
  clear ih2
  dsimp only at hfin
  rw [← hw3] at hfin
  generalize opsB (ops.drop (i + 1)) = rest1 at *
  generalize modsB (mods.drop (k + 1)) = rest2 at *
  obtain ⟨num, rfl⟩ := Int.eq_ofNat_of_zero_le n1.1
  obtain ⟨kind, rfl⟩ := Int.eq_ofNat_of_zero_le n2.1
  obtain ⟨ref, rfl⟩ := Int.eq_ofNat_of_zero_le n3.1
  obtain ⟨oneof, rfl⟩ := Int.eq_ofNat_of_zero_le n4.1
  obtain ⟨run, rfl⟩ := Int.eq_ofNat_of_zero_le n5.1
  rw [Int.toNat_natCast, Int.toNat_natCast, Int.toNat_natCast, Int.toNat_natCast, Int.toNat_natCast] at hout
  have V1 := specPutVarint num (by omega)
  have V2 := specPutVarint kind (by omega)
  have V3 := specPutVarint ref (by omega)
  have V4 := specPutVarint oneof (by omega)
  have V5 := specPutVarint run (by omega)
  generalize vb num = v1 at *
  generalize vb kind = v2 at *
  generalize vb ref = v3 at *
  generalize vb oneof = v4 at *
  generalize vb run = v5 at *
  have hob : obit ⟨num, kind, ref, rep, oneof, tag, quick, run, inl⟩ = bitOf rep 1 + bitOf quick 2 + bitOf (decide (((byteC tag).length : Int) > 0)) 4 + bitOf (decide (((Opr.css inl).length : Int) > 0)) 8 := by rw [lt, li]; rfl
  rw [hob] at hout
  clear hob n1 n2 n3 n4 n5 hbl
  have c1 := bit_le rep (n := 1) (by decide)
  have c2 := bit_le quick (n := 2) (by decide)
  have c3 := bit_le (decide (((byteC tag).length : Int) > 0)) (n := 4) (by decide)
  have c4 := bit_le (decide (((Opr.css inl).length : Int) > 0)) (n := 8) (by decide)
  have h4b := four_bits c1 c2 c3 c4
  have B1 := specBit rep 1
  have B2 := specBit quick 2
  have B3 := specBit (decide (((byteC tag).length : Int) > 0)) 4
  have B4 := specBit (decide (((Opr.css inl).length : Int) > 0)) 8
  generalize bitOf rep 1 = b1 at *
  generalize bitOf quick 2 = b2 at *
  generalize bitOf (decide (((byteC tag).length : Int) > 0)) 4 = b3 at *
  generalize bitOf (decide (((Opr.css inl).length : Int) > 0)) 8 = b4 at *
  simp only [List.append_assoc] at hout
  have f1 := fits hout hBl
  rw [← List.append_assoc] at hout
  have f2 := fits hout hBl
  rw [← List.append_assoc] at hout
  have f3 := fits hout hBl
  rw [← List.append_assoc] at hout
  have f4 := fits hout hBl
  rw [← List.append_assoc] at hout
  have f5 := fits hout hBl
  rw [← List.append_assoc] at hout
  have f6 := fits hout hBl
  rw [← List.append_assoc] at hout
  have hfin := hfin _ hout
  clear hout c1 c2 c3 c4 lt li hw3 hw h2 h3 hi hk hs hl hno ho hlo hlj hm hn hg H ht hby hBl
  simp only [byteC_app] at hfin f1 f2 f3 f4 f5 f6
  conv => whnf
  refine optP_of (hgo) ?_
  conv => whnf
  clear hgo
  refine regP_by (fun t => t = ⟨[(1, .ptr 0 [] 0 0), (3, .hdr 1 []), (4, .sc (.int .i64 k)), (5, .ptr 2 [] 0 0), (6, .sc (.int .i64 i)), (7, .ptr 3 [] 0 0)], [(0, some ⟨[[.sh 3 (Modu.css mods)]], true, 1, true⟩), (1, some ⟨byteC out ++ byteC v1 ++ byteC v2 ++ byteC v3 ++ byteC v4, true, 1, false⟩), (2, some ⟨[[.sh 9 (Opr.css ops), .sh 1 (intC jumps), .sc (.bool cached)]], true, 3, true⟩), (3, some ⟨[[.sc (.int .i64 num), .sc (.int .i64 kind), .sc (.int .i64 ref), .sc (.bool rep), .sc (.int .i64 oneof), .sh 1 (byteC tag), .sc (.bool quick), .sc (.int .i64 run), .sh 9 (Opr.css inl)]], true, 9, true⟩)], 4, 109, 0⟩) ?_ ?_
  · clear hfin
    conv => whnf
    refine regP_go ?_
    conv => whnf
    refine ⟨?_, ?_⟩
    conv => whnf
    refine Fn.use V1 ⟨trivial, ?_⟩
    conv => whnf
    refine ⟨?_, ?_⟩
    conv => whnf
    refine ⟨one_bytes _, chkP_of (decide_eq_true f1) ?_⟩
    conv => whnf
    refine ⟨?_, ?_⟩
    conv => whnf
    refine Fn.use V2 ⟨trivial, ?_⟩
    conv => whnf
    refine ⟨?_, ?_⟩
    conv => whnf
    refine ⟨one_bytes _, chkP_of (decide_eq_true f2) ?_⟩
    conv => whnf
    refine ⟨?_, ?_⟩
    conv => whnf
    refine Fn.use V3 ⟨trivial, ?_⟩
    conv => whnf
    refine ⟨?_, ?_⟩
    conv => whnf
    refine ⟨one_bytes _, chkP_of (decide_eq_true f3) ?_⟩
    conv => whnf
    refine Fn.use V4 ⟨trivial, ?_⟩
    conv => whnf
    refine ⟨one_bytes _, chkP_of (decide_eq_true f4) ?_⟩
    conv => whnf
    conv => whnf
    refine ⟨?_, ?_⟩
    conv => whnf
    refine ⟨one_bytes _, chkP_of (decide_eq_true f3) ?_⟩
    conv => whnf
    refine Fn.use V4 ⟨trivial, ?_⟩
    conv => whnf
    refine ⟨one_bytes _, chkP_of (decide_eq_true f4) ?_⟩
    conv => whnf
    exact trivial
    conv => whnf
    refine ⟨?_, ?_⟩
    conv => whnf
    refine Fn.use V3 ⟨trivial, ?_⟩
    conv => whnf
    refine ⟨one_bytes _, chkP_of (decide_eq_true f3) ?_⟩
    conv => whnf
    refine Fn.use V4 ⟨trivial, ?_⟩
    conv => whnf
    refine ⟨one_bytes _, chkP_of (decide_eq_true f4) ?_⟩
    conv => whnf
    exact trivial
    conv => whnf
    refine ⟨?_, ?_⟩
    conv => whnf
    refine ⟨?_, ?_⟩
    conv => whnf
    refine ⟨one_bytes _, chkP_of (decide_eq_true f2) ?_⟩
    conv => whnf
    refine ⟨?_, ?_⟩
    conv => whnf
    refine Fn.use V3 ⟨trivial, ?_⟩
    conv => whnf
    refine ⟨?_, ?_⟩
    conv => whnf
    refine ⟨one_bytes _, chkP_of (decide_eq_true f3) ?_⟩
    conv => whnf
    refine Fn.use V4 ⟨trivial, ?_⟩
    conv => whnf
    refine ⟨one_bytes _, chkP_of (decide_eq_true f4) ?_⟩
    conv => whnf
    conv => whnf
    refine ⟨?_, ?_⟩
    conv => whnf
    refine ⟨one_bytes _, chkP_of (decide_eq_true f3) ?_⟩
    conv => whnf
    refine Fn.use V4 ⟨trivial, ?_⟩
    conv => whnf
    refine ⟨one_bytes _, chkP_of (decide_eq_true f4) ?_⟩
    conv => whnf
    exact trivial
    conv => whnf
    refine ⟨?_, ?_⟩
    conv => whnf
    refine Fn.use V3 ⟨trivial, ?_⟩
    conv => whnf
    refine ⟨one_bytes _, chkP_of (decide_eq_true f3) ?_⟩
    conv => whnf
    refine Fn.use V4 ⟨trivial, ?_⟩
    conv => whnf
    refine ⟨one_bytes _, chkP_of (decide_eq_true f4) ?_⟩
    conv => whnf
    exact trivial
    conv => whnf
    refine ⟨?_, ?_⟩
    conv => whnf
    refine ⟨one_bytes _, chkP_of (decide_eq_true f2) ?_⟩
    conv => whnf
    refine Fn.use V3 ⟨trivial, ?_⟩
    conv => whnf
    refine ⟨one_bytes _, chkP_of (decide_eq_true f3) ?_⟩
    conv => whnf
    refine Fn.use V4 ⟨trivial, ?_⟩
    conv => whnf
    refine ⟨one_bytes _, chkP_of (decide_eq_true f4) ?_⟩
    conv => whnf
    exact trivial
    conv => whnf
    refine ⟨?_, ?_⟩
    conv => whnf
    refine ⟨?_, ?_⟩
    conv => whnf
    refine ⟨one_bytes _, chkP_of (decide_eq_true f2) ?_⟩
    conv => whnf
    refine Fn.use V3 ⟨trivial, ?_⟩
    conv => whnf
    refine ⟨one_bytes _, chkP_of (decide_eq_true f3) ?_⟩
    conv => whnf
    refine Fn.use V4 ⟨trivial, ?_⟩
    conv => whnf
    refine ⟨one_bytes _, chkP_of (decide_eq_true f4) ?_⟩
    conv => whnf
    conv => whnf
    refine ⟨?_, ?_⟩
    conv => whnf
    refine ⟨one_bytes _, chkP_of (decide_eq_true f2) ?_⟩
    conv => whnf
    refine Fn.use V3 ⟨trivial, ?_⟩
    conv => whnf
    refine ⟨one_bytes _, chkP_of (decide_eq_true f3) ?_⟩
    conv => whnf
    refine Fn.use V4 ⟨trivial, ?_⟩
    conv => whnf
    refine ⟨one_bytes _, chkP_of (decide_eq_true f4) ?_⟩
    conv => whnf
    exact trivial
    exact trivial
    conv => whnf
    refine ⟨?_, ?_⟩
    conv => whnf
    refine ⟨?_, ?_⟩
    conv => whnf
    refine Fn.use V2 ⟨trivial, ?_⟩
    conv => whnf
    refine ⟨?_, ?_⟩
    conv => whnf
    refine ⟨one_bytes _, chkP_of (decide_eq_true f2) ?_⟩
    conv => whnf
    refine ⟨?_, ?_⟩
    conv => whnf
    refine Fn.use V3 ⟨trivial, ?_⟩
    conv => whnf
    refine ⟨?_, ?_⟩
    conv => whnf
    refine ⟨one_bytes _, chkP_of (decide_eq_true f3) ?_⟩
    conv => whnf
    refine Fn.use V4 ⟨trivial, ?_⟩
    conv => whnf
    refine ⟨one_bytes _, chkP_of (decide_eq_true f4) ?_⟩
    conv => whnf
    conv => whnf
    refine ⟨?_, ?_⟩
    conv => whnf
    refine ⟨one_bytes _, chkP_of (decide_eq_true f3) ?_⟩
    conv => whnf
    refine Fn.use V4 ⟨trivial, ?_⟩
    conv => whnf
    refine ⟨one_bytes _, chkP_of (decide_eq_true f4) ?_⟩
    conv => whnf
    exact trivial
    conv => whnf
    refine ⟨?_, ?_⟩
    conv => whnf
    refine Fn.use V3 ⟨trivial, ?_⟩
    conv => whnf
    refine ⟨one_bytes _, chkP_of (decide_eq_true f3) ?_⟩
    conv => whnf
    refine Fn.use V4 ⟨trivial, ?_⟩
    conv => whnf
    refine ⟨one_bytes _, chkP_of (decide_eq_true f4) ?_⟩
    conv => whnf
    exact trivial
    conv => whnf
    refine ⟨?_, ?_⟩
    conv => whnf
    refine ⟨one_bytes _, chkP_of (decide_eq_true f2) ?_⟩
    conv => whnf
    refine Fn.use V3 ⟨trivial, ?_⟩
    conv => whnf
    refine ⟨one_bytes _, chkP_of (decide_eq_true f3) ?_⟩
    conv => whnf
    refine Fn.use V4 ⟨trivial, ?_⟩
    conv => whnf
    refine ⟨one_bytes _, chkP_of (decide_eq_true f4) ?_⟩
    conv => whnf
    exact trivial
    conv => whnf
    refine ⟨?_, ?_⟩
    conv => whnf
    refine Fn.use V2 ⟨trivial, ?_⟩
    conv => whnf
    refine ⟨one_bytes _, chkP_of (decide_eq_true f2) ?_⟩
    conv => whnf
    refine Fn.use V3 ⟨trivial, ?_⟩
    conv => whnf
    refine ⟨one_bytes _, chkP_of (decide_eq_true f3) ?_⟩
    conv => whnf
    refine Fn.use V4 ⟨trivial, ?_⟩
    conv => whnf
    refine ⟨one_bytes _, chkP_of (decide_eq_true f4) ?_⟩
    conv => whnf
    exact trivial
    conv => whnf
    refine ⟨?_, ?_⟩
    conv => whnf
    refine ⟨?_, ?_⟩
    conv => whnf
    refine Fn.use V2 ⟨trivial, ?_⟩
    conv => whnf
    refine ⟨?_, ?_⟩
    conv => whnf
    refine ⟨one_bytes _, chkP_of (decide_eq_true f2) ?_⟩
    conv => whnf
    refine Fn.use V3 ⟨trivial, ?_⟩
    conv => whnf
    refine ⟨one_bytes _, chkP_of (decide_eq_true f3) ?_⟩
    conv => whnf
    refine Fn.use V4 ⟨trivial, ?_⟩
    conv => whnf
    refine ⟨one_bytes _, chkP_of (decide_eq_true f4) ?_⟩
    conv => whnf
    conv => whnf
    refine ⟨?_, ?_⟩
    conv => whnf
    refine ⟨one_bytes _, chkP_of (decide_eq_true f2) ?_⟩
    conv => whnf
    refine Fn.use V3 ⟨trivial, ?_⟩
    conv => whnf
    refine ⟨one_bytes _, chkP_of (decide_eq_true f3) ?_⟩
    conv => whnf
    refine Fn.use V4 ⟨trivial, ?_⟩
    conv => whnf
    refine ⟨one_bytes _, chkP_of (decide_eq_true f4) ?_⟩
    conv => whnf
    exact trivial
    conv => whnf
    refine ⟨?_, ?_⟩
    conv => whnf
    refine Fn.use V2 ⟨trivial, ?_⟩
    conv => whnf
    refine ⟨one_bytes _, chkP_of (decide_eq_true f2) ?_⟩
    conv => whnf
    refine Fn.use V3 ⟨trivial, ?_⟩
    conv => whnf
    refine ⟨one_bytes _, chkP_of (decide_eq_true f3) ?_⟩
    conv => whnf
    refine Fn.use V4 ⟨trivial, ?_⟩
    conv => whnf
    refine ⟨one_bytes _, chkP_of (decide_eq_true f4) ?_⟩
    conv => whnf
    exact trivial
    exact trivial
    conv => whnf
    refine ⟨?_, ?_⟩
    conv => whnf
    refine ⟨?_, ?_⟩
    conv => whnf
    refine ⟨one_bytes _, chkP_of (decide_eq_true f1) ?_⟩
    conv => whnf
    refine ⟨?_, ?_⟩
    conv => whnf
    refine Fn.use V2 ⟨trivial, ?_⟩
    conv => whnf
    refine ⟨?_, ?_⟩
    conv => whnf
    refine ⟨one_bytes _, chkP_of (decide_eq_true f2) ?_⟩
    conv => whnf
    refine ⟨?_, ?_⟩
    conv => whnf
    refine Fn.use V3 ⟨trivial, ?_⟩
    conv => whnf
    refine ⟨?_, ?_⟩
    conv => whnf
    refine ⟨one_bytes _, chkP_of (decide_eq_true f3) ?_⟩
    conv => whnf
    refine Fn.use V4 ⟨trivial, ?_⟩
    conv => whnf
    refine ⟨one_bytes _, chkP_of (decide_eq_true f4) ?_⟩
    conv => whnf
    conv => whnf
    refine ⟨?_, ?_⟩
    conv => whnf
    refine ⟨one_bytes _, chkP_of (decide_eq_true f3) ?_⟩
    conv => whnf
    refine Fn.use V4 ⟨trivial, ?_⟩
    conv => whnf
    refine ⟨one_bytes _, chkP_of (decide_eq_true f4) ?_⟩
    conv => whnf
    exact trivial
    conv => whnf
    refine ⟨?_, ?_⟩
    conv => whnf
    refine Fn.use V3 ⟨trivial, ?_⟩
    conv => whnf
    refine ⟨one_bytes _, chkP_of (decide_eq_true f3) ?_⟩
    conv => whnf
    refine Fn.use V4 ⟨trivial, ?_⟩
    conv => whnf
    refine ⟨one_bytes _, chkP_of (decide_eq_true f4) ?_⟩
    conv => whnf
    exact trivial
    conv => whnf
    refine ⟨?_, ?_⟩
    conv => whnf
    refine ⟨?_, ?_⟩
    conv => whnf
    refine ⟨one_bytes _, chkP_of (decide_eq_true f2) ?_⟩
    conv => whnf
    refine ⟨?_, ?_⟩
    conv => whnf
    refine Fn.use V3 ⟨trivial, ?_⟩
    conv => whnf
    refine ⟨?_, ?_⟩
    conv => whnf
    refine ⟨one_bytes _, chkP_of (decide_eq_true f3) ?_⟩
    conv => whnf
    refine Fn.use V4 ⟨trivial, ?_⟩
    conv => whnf
    refine ⟨one_bytes _, chkP_of (decide_eq_true f4) ?_⟩
    conv => whnf
    conv => whnf
    refine ⟨?_, ?_⟩
    conv => whnf
    refine ⟨one_bytes _, chkP_of (decide_eq_true f3) ?_⟩
    conv => whnf
    refine Fn.use V4 ⟨trivial, ?_⟩
    conv => whnf
    refine ⟨one_bytes _, chkP_of (decide_eq_true f4) ?_⟩
    conv => whnf
    exact trivial
    conv => whnf
    refine ⟨?_, ?_⟩
    conv => whnf
    refine Fn.use V3 ⟨trivial, ?_⟩
    conv => whnf
    refine ⟨one_bytes _, chkP_of (decide_eq_true f3) ?_⟩
    conv => whnf
    refine Fn.use V4 ⟨trivial, ?_⟩
    conv => whnf
    refine ⟨one_bytes _, chkP_of (decide_eq_true f4) ?_⟩
    conv => whnf
    exact trivial
    conv => whnf
    refine ⟨?_, ?_⟩
    conv => whnf
    refine ⟨one_bytes _, chkP_of (decide_eq_true f2) ?_⟩
    conv => whnf
    refine Fn.use V3 ⟨trivial, ?_⟩
    conv => whnf
    refine ⟨one_bytes _, chkP_of (decide_eq_true f3) ?_⟩
    conv => whnf
    refine Fn.use V4 ⟨trivial, ?_⟩
    conv => whnf
    refine ⟨one_bytes _, chkP_of (decide_eq_true f4) ?_⟩
    conv => whnf
    exact trivial
    conv => whnf
    refine ⟨?_, ?_⟩
    conv => whnf
    refine ⟨?_, ?_⟩
    conv => whnf
    refine ⟨one_bytes _, chkP_of (decide_eq_true f2) ?_⟩
    conv => whnf
    refine Fn.use V3 ⟨trivial, ?_⟩
    conv => whnf
    refine ⟨one_bytes _, chkP_of (decide_eq_true f3) ?_⟩
    conv => whnf
    refine Fn.use V4 ⟨trivial, ?_⟩
    conv => whnf
    refine ⟨one_bytes _, chkP_of (decide_eq_true f4) ?_⟩
    conv => whnf
    conv => whnf
    refine ⟨?_, ?_⟩
    conv => whnf
    refine ⟨one_bytes _, chkP_of (decide_eq_true f2) ?_⟩
    conv => whnf
    refine Fn.use V3 ⟨trivial, ?_⟩
    conv => whnf
    refine ⟨one_bytes _, chkP_of (decide_eq_true f3) ?_⟩
    conv => whnf
    refine Fn.use V4 ⟨trivial, ?_⟩
    conv => whnf
    refine ⟨one_bytes _, chkP_of (decide_eq_true f4) ?_⟩
    conv => whnf
    exact trivial
    exact trivial
    conv => whnf
    refine ⟨?_, ?_⟩
    conv => whnf
    refine ⟨?_, ?_⟩
    conv => whnf
    refine Fn.use V2 ⟨trivial, ?_⟩
    conv => whnf
    refine ⟨?_, ?_⟩
    conv => whnf
    refine ⟨one_bytes _, chkP_of (decide_eq_true f2) ?_⟩
    conv => whnf
    refine ⟨?_, ?_⟩
    conv => whnf
    refine Fn.use V3 ⟨trivial, ?_⟩
    conv => whnf
    refine ⟨?_, ?_⟩
    conv => whnf
    refine ⟨one_bytes _, chkP_of (decide_eq_true f3) ?_⟩
    conv => whnf
    refine Fn.use V4 ⟨trivial, ?_⟩
    conv => whnf
    refine ⟨one_bytes _, chkP_of (decide_eq_true f4) ?_⟩
    conv => whnf
    conv => whnf
    refine ⟨?_, ?_⟩
    conv => whnf
    refine ⟨one_bytes _, chkP_of (decide_eq_true f3) ?_⟩
    conv => whnf
    refine Fn.use V4 ⟨trivial, ?_⟩
    conv => whnf
    refine ⟨one_bytes _, chkP_of (decide_eq_true f4) ?_⟩
    conv => whnf
    exact trivial
    conv => whnf
    refine ⟨?_, ?_⟩
    conv => whnf
    refine Fn.use V3 ⟨trivial, ?_⟩
    conv => whnf
    refine ⟨one_bytes _, chkP_of (decide_eq_true f3) ?_⟩
    conv => whnf
    refine Fn.use V4 ⟨trivial, ?_⟩
    conv => whnf
    refine ⟨one_bytes _, chkP_of (decide_eq_true f4) ?_⟩
    conv => whnf
    exact trivial
    conv => whnf
    refine ⟨?_, ?_⟩
    conv => whnf
    refine ⟨one_bytes _, chkP_of (decide_eq_true f2) ?_⟩
    conv => whnf
    refine Fn.use V3 ⟨trivial, ?_⟩
    conv => whnf
    refine ⟨one_bytes _, chkP_of (decide_eq_true f3) ?_⟩
    conv => whnf
    refine Fn.use V4 ⟨trivial, ?_⟩
    conv => whnf
    refine ⟨one_bytes _, chkP_of (decide_eq_true f4) ?_⟩
    conv => whnf
    exact trivial
    conv => whnf
    refine ⟨?_, ?_⟩
    conv => whnf
    refine Fn.use V2 ⟨trivial, ?_⟩
    conv => whnf
    refine ⟨one_bytes _, chkP_of (decide_eq_true f2) ?_⟩
    conv => whnf
    refine Fn.use V3 ⟨trivial, ?_⟩
    conv => whnf
    refine ⟨one_bytes _, chkP_of (decide_eq_true f3) ?_⟩
    conv => whnf
    refine Fn.use V4 ⟨trivial, ?_⟩
    conv => whnf
    refine ⟨one_bytes _, chkP_of (decide_eq_true f4) ?_⟩
    conv => whnf
    exact trivial
    conv => whnf
    refine ⟨?_, ?_⟩
    conv => whnf
    refine ⟨?_, ?_⟩
    conv => whnf
    refine Fn.use V2 ⟨trivial, ?_⟩
    conv => whnf
    refine ⟨?_, ?_⟩
    conv => whnf
    refine ⟨one_bytes _, chkP_of (decide_eq_true f2) ?_⟩
    conv => whnf
    refine Fn.use V3 ⟨trivial, ?_⟩
    conv => whnf
    refine ⟨one_bytes _, chkP_of (decide_eq_true f3) ?_⟩
    conv => whnf
    refine Fn.use V4 ⟨trivial, ?_⟩
    conv => whnf
    refine ⟨one_bytes _, chkP_of (decide_eq_true f4) ?_⟩
    conv => whnf
    conv => whnf
    refine ⟨?_, ?_⟩
    conv => whnf
    refine ⟨one_bytes _, chkP_of (decide_eq_true f2) ?_⟩
    conv => whnf
    refine Fn.use V3 ⟨trivial, ?_⟩
    conv => whnf
    refine ⟨one_bytes _, chkP_of (decide_eq_true f3) ?_⟩
    conv => whnf
    refine Fn.use V4 ⟨trivial, ?_⟩
    conv => whnf
    refine ⟨one_bytes _, chkP_of (decide_eq_true f4) ?_⟩
    conv => whnf
    exact trivial
    conv => whnf
    refine ⟨?_, ?_⟩
    conv => whnf
    refine Fn.use V2 ⟨trivial, ?_⟩
    conv => whnf
    refine ⟨one_bytes _, chkP_of (decide_eq_true f2) ?_⟩
    conv => whnf
    refine Fn.use V3 ⟨trivial, ?_⟩
    conv => whnf
    refine ⟨one_bytes _, chkP_of (decide_eq_true f3) ?_⟩
    conv => whnf
    refine Fn.use V4 ⟨trivial, ?_⟩
    conv => whnf
    refine ⟨one_bytes _, chkP_of (decide_eq_true f4) ?_⟩
    conv => whnf
    exact trivial
    exact trivial
    conv => whnf
    refine ⟨?_, ?_⟩
    conv => whnf
    refine ⟨?_, ?_⟩
    conv => whnf
    refine ⟨one_bytes _, chkP_of (decide_eq_true f1) ?_⟩
    conv => whnf
    refine ⟨?_, ?_⟩
    conv => whnf
    refine Fn.use V2 ⟨trivial, ?_⟩
    conv => whnf
    refine ⟨?_, ?_⟩
    conv => whnf
    refine ⟨one_bytes _, chkP_of (decide_eq_true f2) ?_⟩
    conv => whnf
    refine ⟨?_, ?_⟩
    conv => whnf
    refine Fn.use V3 ⟨trivial, ?_⟩
    conv => whnf
    refine ⟨?_, ?_⟩
    conv => whnf
    refine ⟨one_bytes _, chkP_of (decide_eq_true f3) ?_⟩
    conv => whnf
    refine Fn.use V4 ⟨trivial, ?_⟩
    conv => whnf
    refine ⟨one_bytes _, chkP_of (decide_eq_true f4) ?_⟩
    conv => whnf
    conv => whnf
    refine ⟨?_, ?_⟩
    conv => whnf
    refine ⟨one_bytes _, chkP_of (decide_eq_true f3) ?_⟩
    conv => whnf
    refine Fn.use V4 ⟨trivial, ?_⟩
    conv => whnf
    refine ⟨one_bytes _, chkP_of (decide_eq_true f4) ?_⟩
    conv => whnf
    exact trivial
    conv => whnf
    refine ⟨?_, ?_⟩
    conv => whnf
    refine Fn.use V3 ⟨trivial, ?_⟩
    conv => whnf
    refine ⟨one_bytes _, chkP_of (decide_eq_true f3) ?_⟩
    conv => whnf
    refine Fn.use V4 ⟨trivial, ?_⟩
    conv => whnf
    refine ⟨one_bytes _, chkP_of (decide_eq_true f4) ?_⟩
    conv => whnf
    exact trivial
    conv => whnf
    refine ⟨?_, ?_⟩
    conv => whnf
    refine ⟨one_bytes _, chkP_of (decide_eq_true f2) ?_⟩
    conv => whnf
    refine Fn.use V3 ⟨trivial, ?_⟩
    conv => whnf
    refine ⟨one_bytes _, chkP_of (decide_eq_true f3) ?_⟩
    conv => whnf
    refine Fn.use V4 ⟨trivial, ?_⟩
    conv => whnf
    refine ⟨one_bytes _, chkP_of (decide_eq_true f4) ?_⟩
    conv => whnf
    exact trivial
    conv => whnf
    refine ⟨?_, ?_⟩
    conv => whnf
    refine Fn.use V2 ⟨trivial, ?_⟩
    conv => whnf
    refine ⟨one_bytes _, chkP_of (decide_eq_true f2) ?_⟩
    conv => whnf
    refine Fn.use V3 ⟨trivial, ?_⟩
    conv => whnf
    refine ⟨one_bytes _, chkP_of (decide_eq_true f3) ?_⟩
    conv => whnf
    refine Fn.use V4 ⟨trivial, ?_⟩
    conv => whnf
    refine ⟨one_bytes _, chkP_of (decide_eq_true f4) ?_⟩
    conv => whnf
    exact trivial
    conv => whnf
    refine ⟨?_, ?_⟩
    conv => whnf
    refine ⟨one_bytes _, chkP_of (decide_eq_true f1) ?_⟩
    conv => whnf
    refine Fn.use V2 ⟨trivial, ?_⟩
    conv => whnf
    refine ⟨one_bytes _, chkP_of (decide_eq_true f2) ?_⟩
    conv => whnf
    refine Fn.use V3 ⟨trivial, ?_⟩
    conv => whnf
    refine ⟨one_bytes _, chkP_of (decide_eq_true f3) ?_⟩
    conv => whnf
    refine Fn.use V4 ⟨trivial, ?_⟩
    conv => whnf
    refine ⟨one_bytes _, chkP_of (decide_eq_true f4) ?_⟩
    conv => whnf
    exact trivial
    conv => whnf
    refine ⟨?_, ?_⟩
    conv => whnf
    refine ⟨?_, ?_⟩
    conv => whnf
    refine ⟨one_bytes _, chkP_of (decide_eq_true f1) ?_⟩
    conv => whnf
    refine ⟨?_, ?_⟩
    conv => whnf
    refine Fn.use V2 ⟨trivial, ?_⟩
    conv => whnf
    refine ⟨?_, ?_⟩
    conv => whnf
    refine ⟨one_bytes _, chkP_of (decide_eq_true f2) ?_⟩
    conv => whnf
    refine Fn.use V3 ⟨trivial, ?_⟩
    conv => whnf
    refine ⟨one_bytes _, chkP_of (decide_eq_true f3) ?_⟩
    conv => whnf
    refine Fn.use V4 ⟨trivial, ?_⟩
    conv => whnf
    refine ⟨one_bytes _, chkP_of (decide_eq_true f4) ?_⟩
    conv => whnf
    conv => whnf
    refine ⟨?_, ?_⟩
    conv => whnf
    refine ⟨one_bytes _, chkP_of (decide_eq_true f2) ?_⟩
    conv => whnf
    refine Fn.use V3 ⟨trivial, ?_⟩
    conv => whnf
    refine ⟨one_bytes _, chkP_of (decide_eq_true f3) ?_⟩
    conv => whnf
    refine Fn.use V4 ⟨trivial, ?_⟩
    conv => whnf
    refine ⟨one_bytes _, chkP_of (decide_eq_true f4) ?_⟩
    conv => whnf
    exact trivial
    conv => whnf
    refine ⟨?_, ?_⟩
    conv => whnf
    refine Fn.use V2 ⟨trivial, ?_⟩
    conv => whnf
    refine ⟨one_bytes _, chkP_of (decide_eq_true f2) ?_⟩
    conv => whnf
    refine Fn.use V3 ⟨trivial, ?_⟩
    conv => whnf
    refine ⟨one_bytes _, chkP_of (decide_eq_true f3) ?_⟩
    conv => whnf
    refine Fn.use V4 ⟨trivial, ?_⟩
    conv => whnf
    refine ⟨one_bytes _, chkP_of (decide_eq_true f4) ?_⟩
    conv => whnf
    exact trivial
    conv => whnf
    refine ⟨?_, ?_⟩
    conv => whnf
    refine ⟨one_bytes _, chkP_of (decide_eq_true f1) ?_⟩
    conv => whnf
    refine Fn.use V2 ⟨trivial, ?_⟩
    conv => whnf
    refine ⟨one_bytes _, chkP_of (decide_eq_true f2) ?_⟩
    conv => whnf
    refine Fn.use V3 ⟨trivial, ?_⟩
    conv => whnf
    refine ⟨one_bytes _, chkP_of (decide_eq_true f3) ?_⟩
    conv => whnf
    refine Fn.use V4 ⟨trivial, ?_⟩
    conv => whnf
    refine ⟨one_bytes _, chkP_of (decide_eq_true f4) ?_⟩
    conv => whnf
    exact trivial
    exact trivial
    conv => whnf
    refine ⟨?_, ?_⟩
    conv => whnf
    refine ⟨?_, ?_⟩
    conv => whnf
    refine ⟨one_bytes _, chkP_of (decide_eq_true f1) ?_⟩
    conv => whnf
    refine ⟨?_, ?_⟩
    conv => whnf
    refine Fn.use V2 ⟨trivial, ?_⟩
    conv => whnf
    refine ⟨?_, ?_⟩
    conv => whnf
    refine ⟨one_bytes _, chkP_of (decide_eq_true f2) ?_⟩
    conv => whnf
    refine ⟨?_, ?_⟩
    conv => whnf
    refine Fn.use V3 ⟨trivial, ?_⟩
    conv => whnf
    refine ⟨?_, ?_⟩
    conv => whnf
    refine ⟨one_bytes _, chkP_of (decide_eq_true f3) ?_⟩
    conv => whnf
    refine Fn.use V4 ⟨trivial, ?_⟩
    conv => whnf
    refine ⟨one_bytes _, chkP_of (decide_eq_true f4) ?_⟩
    conv => whnf
    conv => whnf
    refine ⟨?_, ?_⟩
    conv => whnf
    refine ⟨one_bytes _, chkP_of (decide_eq_true f3) ?_⟩
    conv => whnf
    refine Fn.use V4 ⟨trivial, ?_⟩
    conv => whnf
    refine ⟨one_bytes _, chkP_of (decide_eq_true f4) ?_⟩
    conv => whnf
    exact trivial
    conv => whnf
    refine ⟨?_, ?_⟩
    conv => whnf
    refine Fn.use V3 ⟨trivial, ?_⟩
    conv => whnf
    refine ⟨one_bytes _, chkP_of (decide_eq_true f3) ?_⟩
    conv => whnf
    refine Fn.use V4 ⟨trivial, ?_⟩
    conv => whnf
    refine ⟨one_bytes _, chkP_of (decide_eq_true f4) ?_⟩
    conv => whnf
    exact trivial
    conv => whnf
    refine ⟨?_, ?_⟩
    conv => whnf
    refine ⟨one_bytes _, chkP_of (decide_eq_true f2) ?_⟩
    conv => whnf
    refine Fn.use V3 ⟨trivial, ?_⟩
    conv => whnf
    refine ⟨one_bytes _, chkP_of (decide_eq_true f3) ?_⟩
    conv => whnf
    refine Fn.use V4 ⟨trivial, ?_⟩
    conv => whnf
    refine ⟨one_bytes _, chkP_of (decide_eq_true f4) ?_⟩
    conv => whnf
    exact trivial
    conv => whnf
    refine ⟨?_, ?_⟩
    conv => whnf
    refine Fn.use V2 ⟨trivial, ?_⟩
    conv => whnf
    refine ⟨one_bytes _, chkP_of (decide_eq_true f2) ?_⟩
    conv => whnf
    refine Fn.use V3 ⟨trivial, ?_⟩
    conv => whnf
    refine ⟨one_bytes _, chkP_of (decide_eq_true f3) ?_⟩
    conv => whnf
    refine Fn.use V4 ⟨trivial, ?_⟩
    conv => whnf
    refine ⟨one_bytes _, chkP_of (decide_eq_true f4) ?_⟩
    conv => whnf
    exact trivial
    conv => whnf
    refine ⟨?_, ?_⟩
    conv => whnf
    refine ⟨?_, ?_⟩
    conv => whnf
    refine ⟨one_bytes _, chkP_of (decide_eq_true f1) ?_⟩
    conv => whnf
    refine ⟨?_, ?_⟩
    conv => whnf
    refine Fn.use V2 ⟨trivial, ?_⟩
    conv => whnf
    refine ⟨?_, ?_⟩
    conv => whnf
    refine ⟨one_bytes _, chkP_of (decide_eq_true f2) ?_⟩
    conv => whnf
    refine ⟨?_, ?_⟩
    conv => whnf
    refine Fn.use V3 ⟨trivial, ?_⟩
    conv => whnf
    refine ⟨?_, ?_⟩
    conv => whnf
    refine ⟨one_bytes _, chkP_of (decide_eq_true f3) ?_⟩
    conv => whnf
    refine Fn.use V4 ⟨trivial, ?_⟩
    conv => whnf
    refine ⟨one_bytes _, chkP_of (decide_eq_true f4) ?_⟩
    conv => whnf
    conv => whnf
    refine ⟨?_, ?_⟩
    conv => whnf
    refine ⟨one_bytes _, chkP_of (decide_eq_true f3) ?_⟩
    conv => whnf
    refine Fn.use V4 ⟨trivial, ?_⟩
    conv => whnf
    refine ⟨one_bytes _, chkP_of (decide_eq_true f4) ?_⟩
    conv => whnf
    exact trivial
    conv => whnf
    refine ⟨?_, ?_⟩
    conv => whnf
    refine Fn.use V3 ⟨trivial, ?_⟩
    conv => whnf
    refine ⟨one_bytes _, chkP_of (decide_eq_true f3) ?_⟩
    conv => whnf
    refine Fn.use V4 ⟨trivial, ?_⟩
    conv => whnf
    refine ⟨one_bytes _, chkP_of (decide_eq_true f4) ?_⟩
    conv => whnf
    exact trivial
    conv => whnf
    refine ⟨?_, ?_⟩
    conv => whnf
    refine ⟨one_bytes _, chkP_of (decide_eq_true f2) ?_⟩
    conv => whnf
    refine Fn.use V3 ⟨trivial, ?_⟩
    conv => whnf
    refine ⟨one_bytes _, chkP_of (decide_eq_true f3) ?_⟩
    conv => whnf
    refine Fn.use V4 ⟨trivial, ?_⟩
    conv => whnf
    refine ⟨one_bytes _, chkP_of (decide_eq_true f4) ?_⟩
    conv => whnf
    exact trivial
    conv => whnf
    refine ⟨?_, ?_⟩
    conv => whnf
    refine Fn.use V2 ⟨trivial, ?_⟩
    conv => whnf
    refine ⟨one_bytes _, chkP_of (decide_eq_true f2) ?_⟩
    conv => whnf
    refine Fn.use V3 ⟨trivial, ?_⟩
    conv => whnf
    refine ⟨one_bytes _, chkP_of (decide_eq_true f3) ?_⟩
    conv => whnf
    refine Fn.use V4 ⟨trivial, ?_⟩
    conv => whnf
    refine ⟨one_bytes _, chkP_of (decide_eq_true f4) ?_⟩
    conv => whnf
    exact trivial
    conv => whnf
    refine ⟨?_, ?_⟩
    conv => whnf
    refine ⟨one_bytes _, chkP_of (decide_eq_true f1) ?_⟩
    conv => whnf
    refine Fn.use V2 ⟨trivial, ?_⟩
    conv => whnf
    refine ⟨one_bytes _, chkP_of (decide_eq_true f2) ?_⟩
    conv => whnf
    refine Fn.use V3 ⟨trivial, ?_⟩
    conv => whnf
    refine ⟨one_bytes _, chkP_of (decide_eq_true f3) ?_⟩
    conv => whnf
    refine Fn.use V4 ⟨trivial, ?_⟩
    conv => whnf
    refine ⟨one_bytes _, chkP_of (decide_eq_true f4) ?_⟩
    conv => whnf
    exact trivial
    conv => whnf
    refine ⟨?_, ?_⟩
    conv => whnf
    refine ⟨?_, ?_⟩
    conv => whnf
    refine ⟨one_bytes _, chkP_of (decide_eq_true f1) ?_⟩
    conv => whnf
    refine Fn.use V2 ⟨trivial, ?_⟩
    conv => whnf
    refine ⟨one_bytes _, chkP_of (decide_eq_true f2) ?_⟩
    conv => whnf
    refine Fn.use V3 ⟨trivial, ?_⟩
    conv => whnf
    refine ⟨one_bytes _, chkP_of (decide_eq_true f3) ?_⟩
    conv => whnf
    refine Fn.use V4 ⟨trivial, ?_⟩
    conv => whnf
    refine ⟨one_bytes _, chkP_of (decide_eq_true f4) ?_⟩
    conv => whnf
    conv => whnf
    refine ⟨?_, ?_⟩
    conv => whnf
    refine ⟨one_bytes _, chkP_of (decide_eq_true f1) ?_⟩
    conv => whnf
    refine Fn.use V2 ⟨trivial, ?_⟩
    conv => whnf
    refine ⟨one_bytes _, chkP_of (decide_eq_true f2) ?_⟩
    conv => whnf
    refine Fn.use V3 ⟨trivial, ?_⟩
    conv => whnf
    refine ⟨one_bytes _, chkP_of (decide_eq_true f3) ?_⟩
    conv => whnf
    refine Fn.use V4 ⟨trivial, ?_⟩
    conv => whnf
    refine ⟨one_bytes _, chkP_of (decide_eq_true f4) ?_⟩
    conv => whnf
    exact trivial
    exact trivial
    conv => whnf
    refine ⟨?_, ?_⟩
    conv => whnf
    refine ⟨?_, ?_⟩
    conv => whnf
    refine ⟨one_bytes _, chkP_of (decide_eq_true f1) ?_⟩
    conv => whnf
    refine ⟨?_, ?_⟩
    conv => whnf
    refine Fn.use V2 ⟨trivial, ?_⟩
    conv => whnf
    refine ⟨?_, ?_⟩
    conv => whnf
    refine ⟨one_bytes _, chkP_of (decide_eq_true f2) ?_⟩
    conv => whnf
    refine Fn.use V3 ⟨trivial, ?_⟩
    conv => whnf
    refine ⟨one_bytes _, chkP_of (decide_eq_true f3) ?_⟩
    conv => whnf
    refine Fn.use V4 ⟨trivial, ?_⟩
    conv => whnf
    refine ⟨one_bytes _, chkP_of (decide_eq_true f4) ?_⟩
    conv => whnf
    conv => whnf
    refine ⟨?_, ?_⟩
    conv => whnf
    refine ⟨one_bytes _, chkP_of (decide_eq_true f2) ?_⟩
    conv => whnf
    refine Fn.use V3 ⟨trivial, ?_⟩
    conv => whnf
    refine ⟨one_bytes _, chkP_of (decide_eq_true f3) ?_⟩
    conv => whnf
    refine Fn.use V4 ⟨trivial, ?_⟩
    conv => whnf
    refine ⟨one_bytes _, chkP_of (decide_eq_true f4) ?_⟩
    conv => whnf
    exact trivial
    conv => whnf
    refine ⟨?_, ?_⟩
    conv => whnf
    refine Fn.use V2 ⟨trivial, ?_⟩
    conv => whnf
    refine ⟨one_bytes _, chkP_of (decide_eq_true f2) ?_⟩
    conv => whnf
    refine Fn.use V3 ⟨trivial, ?_⟩
    conv => whnf
    refine ⟨one_bytes _, chkP_of (decide_eq_true f3) ?_⟩
    conv => whnf
    refine Fn.use V4 ⟨trivial, ?_⟩
    conv => whnf
    refine ⟨one_bytes _, chkP_of (decide_eq_true f4) ?_⟩
    conv => whnf
    exact trivial
    conv => whnf
    refine ⟨?_, ?_⟩
    conv => whnf
    refine ⟨?_, ?_⟩
    conv => whnf
    refine ⟨one_bytes _, chkP_of (decide_eq_true f1) ?_⟩
    conv => whnf
    refine ⟨?_, ?_⟩
    conv => whnf
    refine Fn.use V2 ⟨trivial, ?_⟩
    conv => whnf
    refine ⟨?_, ?_⟩
    conv => whnf
    refine ⟨one_bytes _, chkP_of (decide_eq_true f2) ?_⟩
    conv => whnf
    refine Fn.use V3 ⟨trivial, ?_⟩
    conv => whnf
    refine ⟨one_bytes _, chkP_of (decide_eq_true f3) ?_⟩
    conv => whnf
    refine Fn.use V4 ⟨trivial, ?_⟩
    conv => whnf
    refine ⟨one_bytes _, chkP_of (decide_eq_true f4) ?_⟩
    conv => whnf
    conv => whnf
    refine ⟨?_, ?_⟩
    conv => whnf
    refine ⟨one_bytes _, chkP_of (decide_eq_true f2) ?_⟩
    conv => whnf
    refine Fn.use V3 ⟨trivial, ?_⟩
    conv => whnf
    refine ⟨one_bytes _, chkP_of (decide_eq_true f3) ?_⟩
    conv => whnf
    refine Fn.use V4 ⟨trivial, ?_⟩
    conv => whnf
    refine ⟨one_bytes _, chkP_of (decide_eq_true f4) ?_⟩
    conv => whnf
    exact trivial
    conv => whnf
    refine ⟨?_, ?_⟩
    conv => whnf
    refine Fn.use V2 ⟨trivial, ?_⟩
    conv => whnf
    refine ⟨one_bytes _, chkP_of (decide_eq_true f2) ?_⟩
    conv => whnf
    refine Fn.use V3 ⟨trivial, ?_⟩
    conv => whnf
    refine ⟨one_bytes _, chkP_of (decide_eq_true f3) ?_⟩
    conv => whnf
    refine Fn.use V4 ⟨trivial, ?_⟩
    conv => whnf
    refine ⟨one_bytes _, chkP_of (decide_eq_true f4) ?_⟩
    conv => whnf
    exact trivial
    conv => whnf
    refine ⟨?_, ?_⟩
    conv => whnf
    refine ⟨one_bytes _, chkP_of (decide_eq_true f1) ?_⟩
    conv => whnf
    refine Fn.use V2 ⟨trivial, ?_⟩
    conv => whnf
    refine ⟨one_bytes _, chkP_of (decide_eq_true f2) ?_⟩
    conv => whnf
    refine Fn.use V3 ⟨trivial, ?_⟩
    conv => whnf
    refine ⟨one_bytes _, chkP_of (decide_eq_true f3) ?_⟩
    conv => whnf
    refine Fn.use V4 ⟨trivial, ?_⟩
    conv => whnf
    refine ⟨one_bytes _, chkP_of (decide_eq_true f4) ?_⟩
    conv => whnf
    exact trivial
    conv => whnf
    refine ⟨?_, ?_⟩
    conv => whnf
    refine ⟨?_, ?_⟩
    conv => whnf
    refine ⟨one_bytes _, chkP_of (decide_eq_true f1) ?_⟩
    conv => whnf
    refine Fn.use V2 ⟨trivial, ?_⟩
    conv => whnf
    refine ⟨one_bytes _, chkP_of (decide_eq_true f2) ?_⟩
    conv => whnf
    refine Fn.use V3 ⟨trivial, ?_⟩
    conv => whnf
    refine ⟨one_bytes _, chkP_of (decide_eq_true f3) ?_⟩
    conv => whnf
    refine Fn.use V4 ⟨trivial, ?_⟩
    conv => whnf
    refine ⟨one_bytes _, chkP_of (decide_eq_true f4) ?_⟩
    conv => whnf
    conv => whnf
    refine ⟨?_, ?_⟩
    conv => whnf
    refine ⟨one_bytes _, chkP_of (decide_eq_true f1) ?_⟩
    conv => whnf
    refine Fn.use V2 ⟨trivial, ?_⟩
    conv => whnf
    refine ⟨one_bytes _, chkP_of (decide_eq_true f2) ?_⟩
    conv => whnf
    refine Fn.use V3 ⟨trivial, ?_⟩
    conv => whnf
    refine ⟨one_bytes _, chkP_of (decide_eq_true f3) ?_⟩
    conv => whnf
    refine Fn.use V4 ⟨trivial, ?_⟩
    conv => whnf
    refine ⟨one_bytes _, chkP_of (decide_eq_true f4) ?_⟩
    conv => whnf
    exact trivial
    exact trivial
    exact trivial
    conv => whnf
    refine ⟨?_, ?_⟩
    conv => whnf
    refine ⟨?_, ?_⟩
    conv => whnf
    refine Fn.use V1 ⟨trivial, ?_⟩
    conv => whnf
    refine ⟨?_, ?_⟩
    conv => whnf
    refine ⟨one_bytes _, chkP_of (decide_eq_true f1) ?_⟩
    conv => whnf
    refine ⟨?_, ?_⟩
    conv => whnf
    refine Fn.use V2 ⟨trivial, ?_⟩
    conv => whnf
    refine ⟨?_, ?_⟩
    conv => whnf
    refine ⟨one_bytes _, chkP_of (decide_eq_true f2) ?_⟩
    conv => whnf
    refine ⟨?_, ?_⟩
    conv => whnf
    refine Fn.use V3 ⟨trivial, ?_⟩
    conv => whnf
    refine ⟨?_, ?_⟩
    conv => whnf
    refine ⟨one_bytes _, chkP_of (decide_eq_true f3) ?_⟩
    conv => whnf
    refine Fn.use V4 ⟨trivial, ?_⟩
    conv => whnf
    refine ⟨one_bytes _, chkP_of (decide_eq_true f4) ?_⟩
    conv => whnf
    conv => whnf
    refine ⟨?_, ?_⟩
    conv => whnf
    refine ⟨one_bytes _, chkP_of (decide_eq_true f3) ?_⟩
    conv => whnf
    refine Fn.use V4 ⟨trivial, ?_⟩
    conv => whnf
    refine ⟨one_bytes _, chkP_of (decide_eq_true f4) ?_⟩
    conv => whnf
    exact trivial
    conv => whnf
    refine ⟨?_, ?_⟩
    conv => whnf
    refine Fn.use V3 ⟨trivial, ?_⟩
    conv => whnf
    refine ⟨one_bytes _, chkP_of (decide_eq_true f3) ?_⟩
    conv => whnf
    refine Fn.use V4 ⟨trivial, ?_⟩
    conv => whnf
    refine ⟨one_bytes _, chkP_of (decide_eq_true f4) ?_⟩
    conv => whnf
    exact trivial
    conv => whnf
    refine ⟨?_, ?_⟩
    conv => whnf
    refine ⟨?_, ?_⟩
    conv => whnf
    refine ⟨one_bytes _, chkP_of (decide_eq_true f2) ?_⟩
    conv => whnf
    refine ⟨?_, ?_⟩
    conv => whnf
    refine Fn.use V3 ⟨trivial, ?_⟩
    conv => whnf
    refine ⟨?_, ?_⟩
    conv => whnf
    refine ⟨one_bytes _, chkP_of (decide_eq_true f3) ?_⟩
    conv => whnf
    refine Fn.use V4 ⟨trivial, ?_⟩
    conv => whnf
    refine ⟨one_bytes _, chkP_of (decide_eq_true f4) ?_⟩
    conv => whnf
    conv => whnf
    refine ⟨?_, ?_⟩
    conv => whnf
    refine ⟨one_bytes _, chkP_of (decide_eq_true f3) ?_⟩
    conv => whnf
    refine Fn.use V4 ⟨trivial, ?_⟩
    conv => whnf
    refine ⟨one_bytes _, chkP_of (decide_eq_true f4) ?_⟩
    conv => whnf
    exact trivial
    conv => whnf
    refine ⟨?_, ?_⟩
    conv => whnf
    refine Fn.use V3 ⟨trivial, ?_⟩
    conv => whnf
    refine ⟨one_bytes _, chkP_of (decide_eq_true f3) ?_⟩
    conv => whnf
    refine Fn.use V4 ⟨trivial, ?_⟩
    conv => whnf
    refine ⟨one_bytes _, chkP_of (decide_eq_true f4) ?_⟩
    conv => whnf
    exact trivial
    conv => whnf
    refine ⟨?_, ?_⟩
    conv => whnf
    refine ⟨one_bytes _, chkP_of (decide_eq_true f2) ?_⟩
    conv => whnf
    refine Fn.use V3 ⟨trivial, ?_⟩
    conv => whnf
    refine ⟨one_bytes _, chkP_of (decide_eq_true f3) ?_⟩
    conv => whnf
    refine Fn.use V4 ⟨trivial, ?_⟩
    conv => whnf
    refine ⟨one_bytes _, chkP_of (decide_eq_true f4) ?_⟩
    conv => whnf
    exact trivial
    conv => whnf
    refine ⟨?_, ?_⟩
    conv => whnf
    refine ⟨?_, ?_⟩
    conv => whnf
    refine ⟨one_bytes _, chkP_of (decide_eq_true f2) ?_⟩
    conv => whnf
    refine Fn.use V3 ⟨trivial, ?_⟩
    conv => whnf
    refine ⟨one_bytes _, chkP_of (decide_eq_true f3) ?_⟩
    conv => whnf
    refine Fn.use V4 ⟨trivial, ?_⟩
    conv => whnf
    refine ⟨one_bytes _, chkP_of (decide_eq_true f4) ?_⟩
    conv => whnf
    conv => whnf
    refine ⟨?_, ?_⟩
    conv => whnf
    refine ⟨one_bytes _, chkP_of (decide_eq_true f2) ?_⟩
    conv => whnf
    refine Fn.use V3 ⟨trivial, ?_⟩
    conv => whnf
    refine ⟨one_bytes _, chkP_of (decide_eq_true f3) ?_⟩
    conv => whnf
    refine Fn.use V4 ⟨trivial, ?_⟩
    conv => whnf
    refine ⟨one_bytes _, chkP_of (decide_eq_true f4) ?_⟩
    conv => whnf
    exact trivial
    exact trivial
    conv => whnf
    refine ⟨?_, ?_⟩
    conv => whnf
    refine ⟨?_, ?_⟩
    conv => whnf
    refine Fn.use V2 ⟨trivial, ?_⟩
    conv => whnf
    refine ⟨?_, ?_⟩
    conv => whnf
    refine ⟨one_bytes _, chkP_of (decide_eq_true f2) ?_⟩
    conv => whnf
    refine ⟨?_, ?_⟩
    conv => whnf
    refine Fn.use V3 ⟨trivial, ?_⟩
    conv => whnf
    refine ⟨?_, ?_⟩
    conv => whnf
    refine ⟨one_bytes _, chkP_of (decide_eq_true f3) ?_⟩
    conv => whnf
    refine Fn.use V4 ⟨trivial, ?_⟩
    conv => whnf
    refine ⟨one_bytes _, chkP_of (decide_eq_true f4) ?_⟩
    conv => whnf
    conv => whnf
    refine ⟨?_, ?_⟩
    conv => whnf
    refine ⟨one_bytes _, chkP_of (decide_eq_true f3) ?_⟩
    conv => whnf
    refine Fn.use V4 ⟨trivial, ?_⟩
    conv => whnf
    refine ⟨one_bytes _, chkP_of (decide_eq_true f4) ?_⟩
    conv => whnf
    exact trivial
    conv => whnf
    refine ⟨?_, ?_⟩
    conv => whnf
    refine Fn.use V3 ⟨trivial, ?_⟩
    conv => whnf
    refine ⟨one_bytes _, chkP_of (decide_eq_true f3) ?_⟩
    conv => whnf
    refine Fn.use V4 ⟨trivial, ?_⟩
    conv => whnf
    refine ⟨one_bytes _, chkP_of (decide_eq_true f4) ?_⟩
    conv => whnf
    exact trivial
    conv => whnf
    refine ⟨?_, ?_⟩
    conv => whnf
    refine ⟨one_bytes _, chkP_of (decide_eq_true f2) ?_⟩
    conv => whnf
    refine Fn.use V3 ⟨trivial, ?_⟩
    conv => whnf
    refine ⟨one_bytes _, chkP_of (decide_eq_true f3) ?_⟩
    conv => whnf
    refine Fn.use V4 ⟨trivial, ?_⟩
    conv => whnf
    refine ⟨one_bytes _, chkP_of (decide_eq_true f4) ?_⟩
    conv => whnf
    exact trivial
    conv => whnf
    refine ⟨?_, ?_⟩
    conv => whnf
    refine Fn.use V2 ⟨trivial, ?_⟩
    conv => whnf
    refine ⟨one_bytes _, chkP_of (decide_eq_true f2) ?_⟩
    conv => whnf
    refine Fn.use V3 ⟨trivial, ?_⟩
    conv => whnf
    refine ⟨one_bytes _, chkP_of (decide_eq_true f3) ?_⟩
    conv => whnf
    refine Fn.use V4 ⟨trivial, ?_⟩
    conv => whnf
    refine ⟨one_bytes _, chkP_of (decide_eq_true f4) ?_⟩
    conv => whnf
    exact trivial
    conv => whnf
    refine ⟨?_, ?_⟩
    conv => whnf
    refine ⟨?_, ?_⟩
    conv => whnf
    refine Fn.use V2 ⟨trivial, ?_⟩
    conv => whnf
    refine ⟨?_, ?_⟩
    conv => whnf
    refine ⟨one_bytes _, chkP_of (decide_eq_true f2) ?_⟩
    conv => whnf
    refine Fn.use V3 ⟨trivial, ?_⟩
    conv => whnf
    refine ⟨one_bytes _, chkP_of (decide_eq_true f3) ?_⟩
    conv => whnf
    refine Fn.use V4 ⟨trivial, ?_⟩
    conv => whnf
    refine ⟨one_bytes _, chkP_of (decide_eq_true f4) ?_⟩
    conv => whnf
    conv => whnf
    refine ⟨?_, ?_⟩
    conv => whnf
    refine ⟨one_bytes _, chkP_of (decide_eq_true f2) ?_⟩
    conv => whnf
    refine Fn.use V3 ⟨trivial, ?_⟩
    conv => whnf
    refine ⟨one_bytes _, chkP_of (decide_eq_true f3) ?_⟩
    conv => whnf
    refine Fn.use V4 ⟨trivial, ?_⟩
    conv => whnf
    refine ⟨one_bytes _, chkP_of (decide_eq_true f4) ?_⟩
    conv => whnf
    exact trivial
    conv => whnf
    refine ⟨?_, ?_⟩
    conv => whnf
    refine Fn.use V2 ⟨trivial, ?_⟩
    conv => whnf
    refine ⟨one_bytes _, chkP_of (decide_eq_true f2) ?_⟩
    conv => whnf
    refine Fn.use V3 ⟨trivial, ?_⟩
    conv => whnf
    refine ⟨one_bytes _, chkP_of (decide_eq_true f3) ?_⟩
    conv => whnf
    refine Fn.use V4 ⟨trivial, ?_⟩
    conv => whnf
    refine ⟨one_bytes _, chkP_of (decide_eq_true f4) ?_⟩
    conv => whnf
    exact trivial
    exact trivial
    conv => whnf
    refine ⟨?_, ?_⟩
    conv => whnf
    refine ⟨?_, ?_⟩
    conv => whnf
    refine ⟨one_bytes _, chkP_of (decide_eq_true f1) ?_⟩
    conv => whnf
    refine ⟨?_, ?_⟩
    conv => whnf
    refine Fn.use V2 ⟨trivial, ?_⟩
    conv => whnf
    refine ⟨?_, ?_⟩
    conv => whnf
    refine ⟨one_bytes _, chkP_of (decide_eq_true f2) ?_⟩
    conv => whnf
    refine ⟨?_, ?_⟩
    conv => whnf
    refine Fn.use V3 ⟨trivial, ?_⟩
    conv => whnf
    refine ⟨?_, ?_⟩
    conv => whnf
    refine ⟨one_bytes _, chkP_of (decide_eq_true f3) ?_⟩
    conv => whnf
    refine Fn.use V4 ⟨trivial, ?_⟩
    conv => whnf
    refine ⟨one_bytes _, chkP_of (decide_eq_true f4) ?_⟩
    conv => whnf
    conv => whnf
    refine ⟨?_, ?_⟩
    conv => whnf
    refine ⟨one_bytes _, chkP_of (decide_eq_true f3) ?_⟩
    conv => whnf
    refine Fn.use V4 ⟨trivial, ?_⟩
    conv => whnf
    refine ⟨one_bytes _, chkP_of (decide_eq_true f4) ?_⟩
    conv => whnf
    exact trivial
    conv => whnf
    refine ⟨?_, ?_⟩
    conv => whnf
    refine Fn.use V3 ⟨trivial, ?_⟩
    conv => whnf
    refine ⟨one_bytes _, chkP_of (decide_eq_true f3) ?_⟩
    conv => whnf
    refine Fn.use V4 ⟨trivial, ?_⟩
    conv => whnf
    refine ⟨one_bytes _, chkP_of (decide_eq_true f4) ?_⟩
    conv => whnf
    exact trivial
    conv => whnf
    refine ⟨?_, ?_⟩
    conv => whnf
    refine ⟨one_bytes _, chkP_of (decide_eq_true f2) ?_⟩
    conv => whnf
    refine Fn.use V3 ⟨trivial, ?_⟩
    conv => whnf
    refine ⟨one_bytes _, chkP_of (decide_eq_true f3) ?_⟩
    conv => whnf
    refine Fn.use V4 ⟨trivial, ?_⟩
    conv => whnf
    refine ⟨one_bytes _, chkP_of (decide_eq_true f4) ?_⟩
    conv => whnf
    exact trivial
    conv => whnf
    refine ⟨?_, ?_⟩
    conv => whnf
    refine Fn.use V2 ⟨trivial, ?_⟩
    conv => whnf
    refine ⟨one_bytes _, chkP_of (decide_eq_true f2) ?_⟩
    conv => whnf
    refine Fn.use V3 ⟨trivial, ?_⟩
    conv => whnf
    refine ⟨one_bytes _, chkP_of (decide_eq_true f3) ?_⟩
    conv => whnf
    refine Fn.use V4 ⟨trivial, ?_⟩
    conv => whnf
    refine ⟨one_bytes _, chkP_of (decide_eq_true f4) ?_⟩
    conv => whnf
    exact trivial
    conv => whnf
    refine ⟨?_, ?_⟩
    conv => whnf
    refine ⟨one_bytes _, chkP_of (decide_eq_true f1) ?_⟩
    conv => whnf
    refine Fn.use V2 ⟨trivial, ?_⟩
    conv => whnf
    refine ⟨one_bytes _, chkP_of (decide_eq_true f2) ?_⟩
    conv => whnf
    refine Fn.use V3 ⟨trivial, ?_⟩
    conv => whnf
    refine ⟨one_bytes _, chkP_of (decide_eq_true f3) ?_⟩
    conv => whnf
    refine Fn.use V4 ⟨trivial, ?_⟩
    conv => whnf
    refine ⟨one_bytes _, chkP_of (decide_eq_true f4) ?_⟩
    conv => whnf
    exact trivial
    conv => whnf
    refine ⟨?_, ?_⟩
    conv => whnf
    refine ⟨?_, ?_⟩
    conv => whnf
    refine ⟨one_bytes _, chkP_of (decide_eq_true f1) ?_⟩
    conv => whnf
    refine ⟨?_, ?_⟩
    conv => whnf
    refine Fn.use V2 ⟨trivial, ?_⟩
    conv => whnf
    refine ⟨?_, ?_⟩
    conv => whnf
    refine ⟨one_bytes _, chkP_of (decide_eq_true f2) ?_⟩
    conv => whnf
    refine Fn.use V3 ⟨trivial, ?_⟩
    conv => whnf
    refine ⟨one_bytes _, chkP_of (decide_eq_true f3) ?_⟩
    conv => whnf
    refine Fn.use V4 ⟨trivial, ?_⟩
    conv => whnf
    refine ⟨one_bytes _, chkP_of (decide_eq_true f4) ?_⟩
    conv => whnf
    conv => whnf
    refine ⟨?_, ?_⟩
    conv => whnf
    refine ⟨one_bytes _, chkP_of (decide_eq_true f2) ?_⟩
    conv => whnf
    refine Fn.use V3 ⟨trivial, ?_⟩
    conv => whnf
    refine ⟨one_bytes _, chkP_of (decide_eq_true f3) ?_⟩
    conv => whnf
    refine Fn.use V4 ⟨trivial, ?_⟩
    conv => whnf
    refine ⟨one_bytes _, chkP_of (decide_eq_true f4) ?_⟩
    conv => whnf
    exact trivial
    conv => whnf
    refine ⟨?_, ?_⟩
    conv => whnf
    refine Fn.use V2 ⟨trivial, ?_⟩
    conv => whnf
    refine ⟨one_bytes _, chkP_of (decide_eq_true f2) ?_⟩
    conv => whnf
    refine Fn.use V3 ⟨trivial, ?_⟩
    conv => whnf
    refine ⟨one_bytes _, chkP_of (decide_eq_true f3) ?_⟩
    conv => whnf
    refine Fn.use V4 ⟨trivial, ?_⟩
    conv => whnf
    refine ⟨one_bytes _, chkP_of (decide_eq_true f4) ?_⟩
    conv => whnf
    exact trivial
    conv => whnf
    refine ⟨?_, ?_⟩
    conv => whnf
    refine ⟨one_bytes _, chkP_of (decide_eq_true f1) ?_⟩
    conv => whnf
    refine Fn.use V2 ⟨trivial, ?_⟩
    conv => whnf
    refine ⟨one_bytes _, chkP_of (decide_eq_true f2) ?_⟩
    conv => whnf
    refine Fn.use V3 ⟨trivial, ?_⟩
    conv => whnf
    refine ⟨one_bytes _, chkP_of (decide_eq_true f3) ?_⟩
    conv => whnf
    refine Fn.use V4 ⟨trivial, ?_⟩
    conv => whnf
    refine ⟨one_bytes _, chkP_of (decide_eq_true f4) ?_⟩
    conv => whnf
    exact trivial
    exact trivial
    conv => whnf
    refine ⟨?_, ?_⟩
    conv => whnf
    refine ⟨?_, ?_⟩
    conv => whnf
    refine Fn.use V1 ⟨trivial, ?_⟩
    conv => whnf
    refine ⟨?_, ?_⟩
    conv => whnf
    refine ⟨one_bytes _, chkP_of (decide_eq_true f1) ?_⟩
    conv => whnf
    refine ⟨?_, ?_⟩
    conv => whnf
    refine Fn.use V2 ⟨trivial, ?_⟩
    conv => whnf
    refine ⟨?_, ?_⟩
    conv => whnf
    refine ⟨one_bytes _, chkP_of (decide_eq_true f2) ?_⟩
    conv => whnf
    refine ⟨?_, ?_⟩
    conv => whnf
    refine Fn.use V3 ⟨trivial, ?_⟩
    conv => whnf
    refine ⟨?_, ?_⟩
    conv => whnf
    refine ⟨one_bytes _, chkP_of (decide_eq_true f3) ?_⟩
    conv => whnf
    refine Fn.use V4 ⟨trivial, ?_⟩
    conv => whnf
    refine ⟨one_bytes _, chkP_of (decide_eq_true f4) ?_⟩
    conv => whnf
    conv => whnf
    refine ⟨?_, ?_⟩
    conv => whnf
    refine ⟨one_bytes _, chkP_of (decide_eq_true f3) ?_⟩
    conv => whnf
    refine Fn.use V4 ⟨trivial, ?_⟩
    conv => whnf
    refine ⟨one_bytes _, chkP_of (decide_eq_true f4) ?_⟩
    conv => whnf
    exact trivial
    conv => whnf
    refine ⟨?_, ?_⟩
    conv => whnf
    refine Fn.use V3 ⟨trivial, ?_⟩
    conv => whnf
    refine ⟨one_bytes _, chkP_of (decide_eq_true f3) ?_⟩
    conv => whnf
    refine Fn.use V4 ⟨trivial, ?_⟩
    conv => whnf
    refine ⟨one_bytes _, chkP_of (decide_eq_true f4) ?_⟩
    conv => whnf
    exact trivial
    conv => whnf
    refine ⟨?_, ?_⟩
    conv => whnf
    refine ⟨one_bytes _, chkP_of (decide_eq_true f2) ?_⟩
    conv => whnf
    refine Fn.use V3 ⟨trivial, ?_⟩
    conv => whnf
    refine ⟨one_bytes _, chkP_of (decide_eq_true f3) ?_⟩
    conv => whnf
    refine Fn.use V4 ⟨trivial, ?_⟩
    conv => whnf
    refine ⟨one_bytes _, chkP_of (decide_eq_true f4) ?_⟩
    conv => whnf
    exact trivial
    conv => whnf
    refine ⟨?_, ?_⟩
    conv => whnf
    refine Fn.use V2 ⟨trivial, ?_⟩
    conv => whnf
    refine ⟨one_bytes _, chkP_of (decide_eq_true f2) ?_⟩
    conv => whnf
    refine Fn.use V3 ⟨trivial, ?_⟩
    conv => whnf
    refine ⟨one_bytes _, chkP_of (decide_eq_true f3) ?_⟩
    conv => whnf
    refine Fn.use V4 ⟨trivial, ?_⟩
    conv => whnf
    refine ⟨one_bytes _, chkP_of (decide_eq_true f4) ?_⟩
    conv => whnf
    exact trivial
    conv => whnf
    refine ⟨?_, ?_⟩
    conv => whnf
    refine ⟨one_bytes _, chkP_of (decide_eq_true f1) ?_⟩
    conv => whnf
    refine Fn.use V2 ⟨trivial, ?_⟩
    conv => whnf
    refine ⟨one_bytes _, chkP_of (decide_eq_true f2) ?_⟩
    conv => whnf
    refine Fn.use V3 ⟨trivial, ?_⟩
    conv => whnf
    refine ⟨one_bytes _, chkP_of (decide_eq_true f3) ?_⟩
    conv => whnf
    refine Fn.use V4 ⟨trivial, ?_⟩
    conv => whnf
    refine ⟨one_bytes _, chkP_of (decide_eq_true f4) ?_⟩
    conv => whnf
    exact trivial
    conv => whnf
    refine ⟨?_, ?_⟩
    conv => whnf
    refine Fn.use V1 ⟨trivial, ?_⟩
    conv => whnf
    refine ⟨one_bytes _, chkP_of (decide_eq_true f1) ?_⟩
    conv => whnf
    refine Fn.use V2 ⟨trivial, ?_⟩
    conv => whnf
    refine ⟨one_bytes _, chkP_of (decide_eq_true f2) ?_⟩
    conv => whnf
    refine Fn.use V3 ⟨trivial, ?_⟩
    conv => whnf
    refine ⟨one_bytes _, chkP_of (decide_eq_true f3) ?_⟩
    conv => whnf
    refine Fn.use V4 ⟨trivial, ?_⟩
    conv => whnf
    refine ⟨one_bytes _, chkP_of (decide_eq_true f4) ?_⟩
    conv => whnf
    exact trivial
    conv => whnf
    refine ⟨?_, ?_⟩
    conv => whnf
    refine ⟨?_, ?_⟩
    conv => whnf
    refine Fn.use V1 ⟨trivial, ?_⟩
    conv => whnf
    refine ⟨?_, ?_⟩
    conv => whnf
    refine ⟨one_bytes _, chkP_of (decide_eq_true f1) ?_⟩
    conv => whnf
    refine ⟨?_, ?_⟩
    conv => whnf
    refine Fn.use V2 ⟨trivial, ?_⟩
    conv => whnf
    refine ⟨?_, ?_⟩
    conv => whnf
    refine ⟨one_bytes _, chkP_of (decide_eq_true f2) ?_⟩
    conv => whnf
    refine Fn.use V3 ⟨trivial, ?_⟩
    conv => whnf
    refine ⟨one_bytes _, chkP_of (decide_eq_true f3) ?_⟩
    conv => whnf
    refine Fn.use V4 ⟨trivial, ?_⟩
    conv => whnf
    refine ⟨one_bytes _, chkP_of (decide_eq_true f4) ?_⟩
    conv => whnf
    conv => whnf
    refine ⟨?_, ?_⟩
    conv => whnf
    refine ⟨one_bytes _, chkP_of (decide_eq_true f2) ?_⟩
    conv => whnf
    refine Fn.use V3 ⟨trivial, ?_⟩
    conv => whnf
    refine ⟨one_bytes _, chkP_of (decide_eq_true f3) ?_⟩
    conv => whnf
    refine Fn.use V4 ⟨trivial, ?_⟩
    conv => whnf
    refine ⟨one_bytes _, chkP_of (decide_eq_true f4) ?_⟩
    conv => whnf
    exact trivial
    conv => whnf
    refine ⟨?_, ?_⟩
    conv => whnf
    refine Fn.use V2 ⟨trivial, ?_⟩
    conv => whnf
    refine ⟨one_bytes _, chkP_of (decide_eq_true f2) ?_⟩
    conv => whnf
    refine Fn.use V3 ⟨trivial, ?_⟩
    conv => whnf
    refine ⟨one_bytes _, chkP_of (decide_eq_true f3) ?_⟩
    conv => whnf
    refine Fn.use V4 ⟨trivial, ?_⟩
    conv => whnf
    refine ⟨one_bytes _, chkP_of (decide_eq_true f4) ?_⟩
    conv => whnf
    exact trivial
    conv => whnf
    refine ⟨?_, ?_⟩
    conv => whnf
    refine ⟨one_bytes _, chkP_of (decide_eq_true f1) ?_⟩
    conv => whnf
    refine Fn.use V2 ⟨trivial, ?_⟩
    conv => whnf
    refine ⟨one_bytes _, chkP_of (decide_eq_true f2) ?_⟩
    conv => whnf
    refine Fn.use V3 ⟨trivial, ?_⟩
    conv => whnf
    refine ⟨one_bytes _, chkP_of (decide_eq_true f3) ?_⟩
    conv => whnf
    refine Fn.use V4 ⟨trivial, ?_⟩
    conv => whnf
    refine ⟨one_bytes _, chkP_of (decide_eq_true f4) ?_⟩
    conv => whnf
    exact trivial
    conv => whnf
    refine ⟨?_, ?_⟩
    conv => whnf
    refine Fn.use V1 ⟨trivial, ?_⟩
    conv => whnf
    refine ⟨one_bytes _, chkP_of (decide_eq_true f1) ?_⟩
    conv => whnf
    refine Fn.use V2 ⟨trivial, ?_⟩
    conv => whnf
    refine ⟨one_bytes _, chkP_of (decide_eq_true f2) ?_⟩
    conv => whnf
    refine Fn.use V3 ⟨trivial, ?_⟩
    conv => whnf
    refine ⟨one_bytes _, chkP_of (decide_eq_true f3) ?_⟩
    conv => whnf
    refine Fn.use V4 ⟨trivial, ?_⟩
    conv => whnf
    refine ⟨one_bytes _, chkP_of (decide_eq_true f4) ?_⟩
    conv => whnf
    exact trivial
    exact trivial
    conv => whnf
    refine ⟨?_, ?_⟩
    conv => whnf
    refine ⟨?_, ?_⟩
    conv => whnf
    refine Fn.use V1 ⟨trivial, ?_⟩
    conv => whnf
    refine ⟨?_, ?_⟩
    conv => whnf
    refine ⟨one_bytes _, chkP_of (decide_eq_true f1) ?_⟩
    conv => whnf
    refine ⟨?_, ?_⟩
    conv => whnf
    refine Fn.use V2 ⟨trivial, ?_⟩
    conv => whnf
    refine ⟨?_, ?_⟩
    conv => whnf
    refine ⟨one_bytes _, chkP_of (decide_eq_true f2) ?_⟩
    conv => whnf
    refine ⟨?_, ?_⟩
    conv => whnf
    refine Fn.use V3 ⟨trivial, ?_⟩
    conv => whnf
    refine ⟨?_, ?_⟩
    conv => whnf
    refine ⟨one_bytes _, chkP_of (decide_eq_true f3) ?_⟩
    conv => whnf
    refine Fn.use V4 ⟨trivial, ?_⟩
    conv => whnf
    refine ⟨one_bytes _, chkP_of (decide_eq_true f4) ?_⟩
    conv => whnf
    conv => whnf
    refine ⟨?_, ?_⟩
    conv => whnf
    refine ⟨one_bytes _, chkP_of (decide_eq_true f3) ?_⟩
    conv => whnf
    refine Fn.use V4 ⟨trivial, ?_⟩
    conv => whnf
    refine ⟨one_bytes _, chkP_of (decide_eq_true f4) ?_⟩
    conv => whnf
    exact trivial
    conv => whnf
    refine ⟨?_, ?_⟩
    conv => whnf
    refine Fn.use V3 ⟨trivial, ?_⟩
    conv => whnf
    refine ⟨one_bytes _, chkP_of (decide_eq_true f3) ?_⟩
    conv => whnf
    refine Fn.use V4 ⟨trivial, ?_⟩
    conv => whnf
    refine ⟨one_bytes _, chkP_of (decide_eq_true f4) ?_⟩
    conv => whnf
    exact trivial
    conv => whnf
    refine ⟨?_, ?_⟩
    conv => whnf
    refine ⟨one_bytes _, chkP_of (decide_eq_true f2) ?_⟩
    conv => whnf
    refine Fn.use V3 ⟨trivial, ?_⟩
    conv => whnf
    refine ⟨one_bytes _, chkP_of (decide_eq_true f3) ?_⟩
    conv => whnf
    refine Fn.use V4 ⟨trivial, ?_⟩
    conv => whnf
    refine ⟨one_bytes _, chkP_of (decide_eq_true f4) ?_⟩
    conv => whnf
    exact trivial
    conv => whnf
    refine ⟨?_, ?_⟩
    conv => whnf
    refine Fn.use V2 ⟨trivial, ?_⟩
    conv => whnf
    refine ⟨one_bytes _, chkP_of (decide_eq_true f2) ?_⟩
    conv => whnf
    refine Fn.use V3 ⟨trivial, ?_⟩
    conv => whnf
    refine ⟨one_bytes _, chkP_of (decide_eq_true f3) ?_⟩
    conv => whnf
    refine Fn.use V4 ⟨trivial, ?_⟩
    conv => whnf
    refine ⟨one_bytes _, chkP_of (decide_eq_true f4) ?_⟩
    conv => whnf
    exact trivial
    conv => whnf
    refine ⟨?_, ?_⟩
    conv => whnf
    refine ⟨?_, ?_⟩
    conv => whnf
    refine ⟨one_bytes _, chkP_of (decide_eq_true f1) ?_⟩
    conv => whnf
    refine ⟨?_, ?_⟩
    conv => whnf
    refine Fn.use V2 ⟨trivial, ?_⟩
    conv => whnf
    refine ⟨?_, ?_⟩
    conv => whnf
    refine ⟨one_bytes _, chkP_of (decide_eq_true f2) ?_⟩
    conv => whnf
    refine ⟨?_, ?_⟩
    conv => whnf
    refine Fn.use V3 ⟨trivial, ?_⟩
    conv => whnf
    refine ⟨?_, ?_⟩
    conv => whnf
    refine ⟨one_bytes _, chkP_of (decide_eq_true f3) ?_⟩
    conv => whnf
    refine Fn.use V4 ⟨trivial, ?_⟩
    conv => whnf
    refine ⟨one_bytes _, chkP_of (decide_eq_true f4) ?_⟩
    conv => whnf
    conv => whnf
    refine ⟨?_, ?_⟩
    conv => whnf
    refine ⟨one_bytes _, chkP_of (decide_eq_true f3) ?_⟩
    conv => whnf
    refine Fn.use V4 ⟨trivial, ?_⟩
    conv => whnf
    refine ⟨one_bytes _, chkP_of (decide_eq_true f4) ?_⟩
    conv => whnf
    exact trivial
    conv => whnf
    refine ⟨?_, ?_⟩
    conv => whnf
    refine Fn.use V3 ⟨trivial, ?_⟩
    conv => whnf
    refine ⟨one_bytes _, chkP_of (decide_eq_true f3) ?_⟩
    conv => whnf
    refine Fn.use V4 ⟨trivial, ?_⟩
    conv => whnf
    refine ⟨one_bytes _, chkP_of (decide_eq_true f4) ?_⟩
    conv => whnf
    exact trivial
    conv => whnf
    refine ⟨?_, ?_⟩
    conv => whnf
    refine ⟨one_bytes _, chkP_of (decide_eq_true f2) ?_⟩
    conv => whnf
    refine Fn.use V3 ⟨trivial, ?_⟩
    conv => whnf
    refine ⟨one_bytes _, chkP_of (decide_eq_true f3) ?_⟩
    conv => whnf
    refine Fn.use V4 ⟨trivial, ?_⟩
    conv => whnf
    refine ⟨one_bytes _, chkP_of (decide_eq_true f4) ?_⟩
    conv => whnf
    exact trivial
    conv => whnf
    refine ⟨?_, ?_⟩
    conv => whnf
    refine Fn.use V2 ⟨trivial, ?_⟩
    conv => whnf
    refine ⟨one_bytes _, chkP_of (decide_eq_true f2) ?_⟩
    conv => whnf
    refine Fn.use V3 ⟨trivial, ?_⟩
    conv => whnf
    refine ⟨one_bytes _, chkP_of (decide_eq_true f3) ?_⟩
    conv => whnf
    refine Fn.use V4 ⟨trivial, ?_⟩
    conv => whnf
    refine ⟨one_bytes _, chkP_of (decide_eq_true f4) ?_⟩
    conv => whnf
    exact trivial
    conv => whnf
    refine ⟨?_, ?_⟩
    conv => whnf
    refine ⟨one_bytes _, chkP_of (decide_eq_true f1) ?_⟩
    conv => whnf
    refine Fn.use V2 ⟨trivial, ?_⟩
    conv => whnf
    refine ⟨one_bytes _, chkP_of (decide_eq_true f2) ?_⟩
    conv => whnf
    refine Fn.use V3 ⟨trivial, ?_⟩
    conv => whnf
    refine ⟨one_bytes _, chkP_of (decide_eq_true f3) ?_⟩
    conv => whnf
    refine Fn.use V4 ⟨trivial, ?_⟩
    conv => whnf
    refine ⟨one_bytes _, chkP_of (decide_eq_true f4) ?_⟩
    conv => whnf
    exact trivial
    conv => whnf
    refine ⟨?_, ?_⟩
    conv => whnf
    refine ⟨?_, ?_⟩
    conv => whnf
    refine ⟨one_bytes _, chkP_of (decide_eq_true f1) ?_⟩
    conv => whnf
    refine Fn.use V2 ⟨trivial, ?_⟩
    conv => whnf
    refine ⟨one_bytes _, chkP_of (decide_eq_true f2) ?_⟩
    conv => whnf
    refine Fn.use V3 ⟨trivial, ?_⟩
    conv => whnf
    refine ⟨one_bytes _, chkP_of (decide_eq_true f3) ?_⟩
    conv => whnf
    refine Fn.use V4 ⟨trivial, ?_⟩
    conv => whnf
    refine ⟨one_bytes _, chkP_of (decide_eq_true f4) ?_⟩
    conv => whnf
    conv => whnf
    refine ⟨?_, ?_⟩
    conv => whnf
    refine ⟨one_bytes _, chkP_of (decide_eq_true f1) ?_⟩
    conv => whnf
    refine Fn.use V2 ⟨trivial, ?_⟩
    conv => whnf
    refine ⟨one_bytes _, chkP_of (decide_eq_true f2) ?_⟩
    conv => whnf
    refine Fn.use V3 ⟨trivial, ?_⟩
    conv => whnf
    refine ⟨one_bytes _, chkP_of (decide_eq_true f3) ?_⟩
    conv => whnf
    refine Fn.use V4 ⟨trivial, ?_⟩
    conv => whnf
    refine ⟨one_bytes _, chkP_of (decide_eq_true f4) ?_⟩
    conv => whnf
    exact trivial
    exact trivial
    conv => whnf
    refine ⟨?_, ?_⟩
    conv => whnf
    refine ⟨?_, ?_⟩
    conv => whnf
    refine Fn.use V1 ⟨trivial, ?_⟩
    conv => whnf
    refine ⟨?_, ?_⟩
    conv => whnf
    refine ⟨one_bytes _, chkP_of (decide_eq_true f1) ?_⟩
    conv => whnf
    refine ⟨?_, ?_⟩
    conv => whnf
    refine Fn.use V2 ⟨trivial, ?_⟩
    conv => whnf
    refine ⟨?_, ?_⟩
    conv => whnf
    refine ⟨one_bytes _, chkP_of (decide_eq_true f2) ?_⟩
    conv => whnf
    refine ⟨?_, ?_⟩
    conv => whnf
    refine Fn.use V3 ⟨trivial, ?_⟩
    conv => whnf
    refine ⟨?_, ?_⟩
    conv => whnf
    refine ⟨one_bytes _, chkP_of (decide_eq_true f3) ?_⟩
    conv => whnf
    refine Fn.use V4 ⟨trivial, ?_⟩
    conv => whnf
    refine ⟨one_bytes _, chkP_of (decide_eq_true f4) ?_⟩
    conv => whnf
    conv => whnf
    refine ⟨?_, ?_⟩
    conv => whnf
    refine ⟨one_bytes _, chkP_of (decide_eq_true f3) ?_⟩
    conv => whnf
    refine Fn.use V4 ⟨trivial, ?_⟩
    conv => whnf
    refine ⟨one_bytes _, chkP_of (decide_eq_true f4) ?_⟩
    conv => whnf
    exact trivial
    conv => whnf
    refine ⟨?_, ?_⟩
    conv => whnf
    refine Fn.use V3 ⟨trivial, ?_⟩
    conv => whnf
    refine ⟨one_bytes _, chkP_of (decide_eq_true f3) ?_⟩
    conv => whnf
    refine Fn.use V4 ⟨trivial, ?_⟩
    conv => whnf
    refine ⟨one_bytes _, chkP_of (decide_eq_true f4) ?_⟩
    conv => whnf
    exact trivial
    conv => whnf
    refine ⟨?_, ?_⟩
    conv => whnf
    refine ⟨one_bytes _, chkP_of (decide_eq_true f2) ?_⟩
    conv => whnf
    refine Fn.use V3 ⟨trivial, ?_⟩
    conv => whnf
    refine ⟨one_bytes _, chkP_of (decide_eq_true f3) ?_⟩
    conv => whnf
    refine Fn.use V4 ⟨trivial, ?_⟩
    conv => whnf
    refine ⟨one_bytes _, chkP_of (decide_eq_true f4) ?_⟩
    conv => whnf
    exact trivial
    conv => whnf
    refine ⟨?_, ?_⟩
    conv => whnf
    refine Fn.use V2 ⟨trivial, ?_⟩
    conv => whnf
    refine ⟨one_bytes _, chkP_of (decide_eq_true f2) ?_⟩
    conv => whnf
    refine Fn.use V3 ⟨trivial, ?_⟩
    conv => whnf
    refine ⟨one_bytes _, chkP_of (decide_eq_true f3) ?_⟩
    conv => whnf
    refine Fn.use V4 ⟨trivial, ?_⟩
    conv => whnf
    refine ⟨one_bytes _, chkP_of (decide_eq_true f4) ?_⟩
    conv => whnf
    exact trivial
    conv => whnf
    refine ⟨?_, ?_⟩
    conv => whnf
    refine ⟨one_bytes _, chkP_of (decide_eq_true f1) ?_⟩
    conv => whnf
    refine Fn.use V2 ⟨trivial, ?_⟩
    conv => whnf
    refine ⟨one_bytes _, chkP_of (decide_eq_true f2) ?_⟩
    conv => whnf
    refine Fn.use V3 ⟨trivial, ?_⟩
    conv => whnf
    refine ⟨one_bytes _, chkP_of (decide_eq_true f3) ?_⟩
    conv => whnf
    refine Fn.use V4 ⟨trivial, ?_⟩
    conv => whnf
    refine ⟨one_bytes _, chkP_of (decide_eq_true f4) ?_⟩
    conv => whnf
    exact trivial
    conv => whnf
    refine ⟨?_, ?_⟩
    conv => whnf
    refine Fn.use V1 ⟨trivial, ?_⟩
    conv => whnf
    refine ⟨one_bytes _, chkP_of (decide_eq_true f1) ?_⟩
    conv => whnf
    refine Fn.use V2 ⟨trivial, ?_⟩
    conv => whnf
    refine ⟨one_bytes _, chkP_of (decide_eq_true f2) ?_⟩
    conv => whnf
    refine Fn.use V3 ⟨trivial, ?_⟩
    conv => whnf
    refine ⟨one_bytes _, chkP_of (decide_eq_true f3) ?_⟩
    conv => whnf
    refine Fn.use V4 ⟨trivial, ?_⟩
    conv => whnf
    refine ⟨one_bytes _, chkP_of (decide_eq_true f4) ?_⟩
    conv => whnf
    exact trivial
    conv => whnf
    refine ⟨?_, ?_⟩
    conv => whnf
    refine ⟨?_, ?_⟩
    conv => whnf
    refine Fn.use V1 ⟨trivial, ?_⟩
    conv => whnf
    refine ⟨?_, ?_⟩
    conv => whnf
    refine ⟨one_bytes _, chkP_of (decide_eq_true f1) ?_⟩
    conv => whnf
    refine Fn.use V2 ⟨trivial, ?_⟩
    conv => whnf
    refine ⟨one_bytes _, chkP_of (decide_eq_true f2) ?_⟩
    conv => whnf
    refine Fn.use V3 ⟨trivial, ?_⟩
    conv => whnf
    refine ⟨one_bytes _, chkP_of (decide_eq_true f3) ?_⟩
    conv => whnf
    refine Fn.use V4 ⟨trivial, ?_⟩
    conv => whnf
    refine ⟨one_bytes _, chkP_of (decide_eq_true f4) ?_⟩
    conv => whnf
    conv => whnf
    refine ⟨?_, ?_⟩
    conv => whnf
    refine ⟨one_bytes _, chkP_of (decide_eq_true f1) ?_⟩
    conv => whnf
    refine Fn.use V2 ⟨trivial, ?_⟩
    conv => whnf
    refine ⟨one_bytes _, chkP_of (decide_eq_true f2) ?_⟩
    conv => whnf
    refine Fn.use V3 ⟨trivial, ?_⟩
    conv => whnf
    refine ⟨one_bytes _, chkP_of (decide_eq_true f3) ?_⟩
    conv => whnf
    refine Fn.use V4 ⟨trivial, ?_⟩
    conv => whnf
    refine ⟨one_bytes _, chkP_of (decide_eq_true f4) ?_⟩
    conv => whnf
    exact trivial
    conv => whnf
    refine ⟨?_, ?_⟩
    conv => whnf
    refine Fn.use V1 ⟨trivial, ?_⟩
    conv => whnf
    refine ⟨one_bytes _, chkP_of (decide_eq_true f1) ?_⟩
    conv => whnf
    refine Fn.use V2 ⟨trivial, ?_⟩
    conv => whnf
    refine ⟨one_bytes _, chkP_of (decide_eq_true f2) ?_⟩
    conv => whnf
    refine Fn.use V3 ⟨trivial, ?_⟩
    conv => whnf
    refine ⟨one_bytes _, chkP_of (decide_eq_true f3) ?_⟩
    conv => whnf
    refine Fn.use V4 ⟨trivial, ?_⟩
    conv => whnf
    refine ⟨one_bytes _, chkP_of (decide_eq_true f4) ?_⟩
    conv => whnf
    exact trivial
    exact trivial
    conv => whnf
    refine ⟨?_, ?_⟩
    conv => whnf
    refine ⟨?_, ?_⟩
    conv => whnf
    refine Fn.use V1 ⟨trivial, ?_⟩
    conv => whnf
    refine ⟨?_, ?_⟩
    conv => whnf
    refine ⟨one_bytes _, chkP_of (decide_eq_true f1) ?_⟩
    conv => whnf
    refine ⟨?_, ?_⟩
    conv => whnf
    refine Fn.use V2 ⟨trivial, ?_⟩
    conv => whnf
    refine ⟨?_, ?_⟩
    conv => whnf
    refine ⟨one_bytes _, chkP_of (decide_eq_true f2) ?_⟩
    conv => whnf
    refine Fn.use V3 ⟨trivial, ?_⟩
    conv => whnf
    refine ⟨one_bytes _, chkP_of (decide_eq_true f3) ?_⟩
    conv => whnf
    refine Fn.use V4 ⟨trivial, ?_⟩
    conv => whnf
    refine ⟨one_bytes _, chkP_of (decide_eq_true f4) ?_⟩
    conv => whnf
    conv => whnf
    refine ⟨?_, ?_⟩
    conv => whnf
    refine ⟨one_bytes _, chkP_of (decide_eq_true f2) ?_⟩
    conv => whnf
    refine Fn.use V3 ⟨trivial, ?_⟩
    conv => whnf
    refine ⟨one_bytes _, chkP_of (decide_eq_true f3) ?_⟩
    conv => whnf
    refine Fn.use V4 ⟨trivial, ?_⟩
    conv => whnf
    refine ⟨one_bytes _, chkP_of (decide_eq_true f4) ?_⟩
    conv => whnf
    exact trivial
    conv => whnf
    refine ⟨?_, ?_⟩
    conv => whnf
    refine Fn.use V2 ⟨trivial, ?_⟩
    conv => whnf
    refine ⟨one_bytes _, chkP_of (decide_eq_true f2) ?_⟩
    conv => whnf
    refine Fn.use V3 ⟨trivial, ?_⟩
    conv => whnf
    refine ⟨one_bytes _, chkP_of (decide_eq_true f3) ?_⟩
    conv => whnf
    refine Fn.use V4 ⟨trivial, ?_⟩
    conv => whnf
    refine ⟨one_bytes _, chkP_of (decide_eq_true f4) ?_⟩
    conv => whnf
    exact trivial
    conv => whnf
    refine ⟨?_, ?_⟩
    conv => whnf
    refine ⟨?_, ?_⟩
    conv => whnf
    refine ⟨one_bytes _, chkP_of (decide_eq_true f1) ?_⟩
    conv => whnf
    refine ⟨?_, ?_⟩
    conv => whnf
    refine Fn.use V2 ⟨trivial, ?_⟩
    conv => whnf
    refine ⟨?_, ?_⟩
    conv => whnf
    refine ⟨one_bytes _, chkP_of (decide_eq_true f2) ?_⟩
    conv => whnf
    refine Fn.use V3 ⟨trivial, ?_⟩
    conv => whnf
    refine ⟨one_bytes _, chkP_of (decide_eq_true f3) ?_⟩
    conv => whnf
    refine Fn.use V4 ⟨trivial, ?_⟩
    conv => whnf
    refine ⟨one_bytes _, chkP_of (decide_eq_true f4) ?_⟩
    conv => whnf
    conv => whnf
    refine ⟨?_, ?_⟩
    conv => whnf
    refine ⟨one_bytes _, chkP_of (decide_eq_true f2) ?_⟩
    conv => whnf
    refine Fn.use V3 ⟨trivial, ?_⟩
    conv => whnf
    refine ⟨one_bytes _, chkP_of (decide_eq_true f3) ?_⟩
    conv => whnf
    refine Fn.use V4 ⟨trivial, ?_⟩
    conv => whnf
    refine ⟨one_bytes _, chkP_of (decide_eq_true f4) ?_⟩
    conv => whnf
    exact trivial
    conv => whnf
    refine ⟨?_, ?_⟩
    conv => whnf
    refine Fn.use V2 ⟨trivial, ?_⟩
    conv => whnf
    refine ⟨one_bytes _, chkP_of (decide_eq_true f2) ?_⟩
    conv => whnf
    refine Fn.use V3 ⟨trivial, ?_⟩
    conv => whnf
    refine ⟨one_bytes _, chkP_of (decide_eq_true f3) ?_⟩
    conv => whnf
    refine Fn.use V4 ⟨trivial, ?_⟩
    conv => whnf
    refine ⟨one_bytes _, chkP_of (decide_eq_true f4) ?_⟩
    conv => whnf
    exact trivial
    conv => whnf
    refine ⟨?_, ?_⟩
    conv => whnf
    refine ⟨one_bytes _, chkP_of (decide_eq_true f1) ?_⟩
    conv => whnf
    refine Fn.use V2 ⟨trivial, ?_⟩
    conv => whnf
    refine ⟨one_bytes _, chkP_of (decide_eq_true f2) ?_⟩
    conv => whnf
    refine Fn.use V3 ⟨trivial, ?_⟩
    conv => whnf
    refine ⟨one_bytes _, chkP_of (decide_eq_true f3) ?_⟩
    conv => whnf
    refine Fn.use V4 ⟨trivial, ?_⟩
    conv => whnf
    refine ⟨one_bytes _, chkP_of (decide_eq_true f4) ?_⟩
    conv => whnf
    exact trivial
    conv => whnf
    refine ⟨?_, ?_⟩
    conv => whnf
    refine ⟨?_, ?_⟩
    conv => whnf
    refine ⟨one_bytes _, chkP_of (decide_eq_true f1) ?_⟩
    conv => whnf
    refine Fn.use V2 ⟨trivial, ?_⟩
    conv => whnf
    refine ⟨one_bytes _, chkP_of (decide_eq_true f2) ?_⟩
    conv => whnf
    refine Fn.use V3 ⟨trivial, ?_⟩
    conv => whnf
    refine ⟨one_bytes _, chkP_of (decide_eq_true f3) ?_⟩
    conv => whnf
    refine Fn.use V4 ⟨trivial, ?_⟩
    conv => whnf
    refine ⟨one_bytes _, chkP_of (decide_eq_true f4) ?_⟩
    conv => whnf
    conv => whnf
    refine ⟨?_, ?_⟩
    conv => whnf
    refine ⟨one_bytes _, chkP_of (decide_eq_true f1) ?_⟩
    conv => whnf
    refine Fn.use V2 ⟨trivial, ?_⟩
    conv => whnf
    refine ⟨one_bytes _, chkP_of (decide_eq_true f2) ?_⟩
    conv => whnf
    refine Fn.use V3 ⟨trivial, ?_⟩
    conv => whnf
    refine ⟨one_bytes _, chkP_of (decide_eq_true f3) ?_⟩
    conv => whnf
    refine Fn.use V4 ⟨trivial, ?_⟩
    conv => whnf
    refine ⟨one_bytes _, chkP_of (decide_eq_true f4) ?_⟩
    conv => whnf
    exact trivial
    exact trivial
    conv => whnf
    refine ⟨?_, ?_⟩
    conv => whnf
    refine ⟨?_, ?_⟩
    conv => whnf
    refine Fn.use V1 ⟨trivial, ?_⟩
    conv => whnf
    refine ⟨?_, ?_⟩
    conv => whnf
    refine ⟨one_bytes _, chkP_of (decide_eq_true f1) ?_⟩
    conv => whnf
    refine ⟨?_, ?_⟩
    conv => whnf
    refine Fn.use V2 ⟨trivial, ?_⟩
    conv => whnf
    refine ⟨?_, ?_⟩
    conv => whnf
    refine ⟨one_bytes _, chkP_of (decide_eq_true f2) ?_⟩
    conv => whnf
    refine Fn.use V3 ⟨trivial, ?_⟩
    conv => whnf
    refine ⟨one_bytes _, chkP_of (decide_eq_true f3) ?_⟩
    conv => whnf
    refine Fn.use V4 ⟨trivial, ?_⟩
    conv => whnf
    refine ⟨one_bytes _, chkP_of (decide_eq_true f4) ?_⟩
    conv => whnf
    conv => whnf
    refine ⟨?_, ?_⟩
    conv => whnf
    refine ⟨one_bytes _, chkP_of (decide_eq_true f2) ?_⟩
    conv => whnf
    refine Fn.use V3 ⟨trivial, ?_⟩
    conv => whnf
    refine ⟨one_bytes _, chkP_of (decide_eq_true f3) ?_⟩
    conv => whnf
    refine Fn.use V4 ⟨trivial, ?_⟩
    conv => whnf
    refine ⟨one_bytes _, chkP_of (decide_eq_true f4) ?_⟩
    conv => whnf
    exact trivial
    conv => whnf
    refine ⟨?_, ?_⟩
    conv => whnf
    refine Fn.use V2 ⟨trivial, ?_⟩
    conv => whnf
    refine ⟨one_bytes _, chkP_of (decide_eq_true f2) ?_⟩
    conv => whnf
    refine Fn.use V3 ⟨trivial, ?_⟩
    conv => whnf
    refine ⟨one_bytes _, chkP_of (decide_eq_true f3) ?_⟩
    conv => whnf
    refine Fn.use V4 ⟨trivial, ?_⟩
    conv => whnf
    refine ⟨one_bytes _, chkP_of (decide_eq_true f4) ?_⟩
    conv => whnf
    exact trivial
    conv => whnf
    refine ⟨?_, ?_⟩
    conv => whnf
    refine ⟨one_bytes _, chkP_of (decide_eq_true f1) ?_⟩
    conv => whnf
    refine Fn.use V2 ⟨trivial, ?_⟩
    conv => whnf
    refine ⟨one_bytes _, chkP_of (decide_eq_true f2) ?_⟩
    conv => whnf
    refine Fn.use V3 ⟨trivial, ?_⟩
    conv => whnf
    refine ⟨one_bytes _, chkP_of (decide_eq_true f3) ?_⟩
    conv => whnf
    refine Fn.use V4 ⟨trivial, ?_⟩
    conv => whnf
    refine ⟨one_bytes _, chkP_of (decide_eq_true f4) ?_⟩
    conv => whnf
    exact trivial
    conv => whnf
    refine ⟨?_, ?_⟩
    conv => whnf
    refine Fn.use V1 ⟨trivial, ?_⟩
    conv => whnf
    refine ⟨one_bytes _, chkP_of (decide_eq_true f1) ?_⟩
    conv => whnf
    refine Fn.use V2 ⟨trivial, ?_⟩
    conv => whnf
    refine ⟨one_bytes _, chkP_of (decide_eq_true f2) ?_⟩
    conv => whnf
    refine Fn.use V3 ⟨trivial, ?_⟩
    conv => whnf
    refine ⟨one_bytes _, chkP_of (decide_eq_true f3) ?_⟩
    conv => whnf
    refine Fn.use V4 ⟨trivial, ?_⟩
    conv => whnf
    refine ⟨one_bytes _, chkP_of (decide_eq_true f4) ?_⟩
    conv => whnf
    exact trivial
    conv => whnf
    refine ⟨?_, ?_⟩
    conv => whnf
    refine ⟨?_, ?_⟩
    conv => whnf
    refine Fn.use V1 ⟨trivial, ?_⟩
    conv => whnf
    refine ⟨?_, ?_⟩
    conv => whnf
    refine ⟨one_bytes _, chkP_of (decide_eq_true f1) ?_⟩
    conv => whnf
    refine Fn.use V2 ⟨trivial, ?_⟩
    conv => whnf
    refine ⟨one_bytes _, chkP_of (decide_eq_true f2) ?_⟩
    conv => whnf
    refine Fn.use V3 ⟨trivial, ?_⟩
    conv => whnf
    refine ⟨one_bytes _, chkP_of (decide_eq_true f3) ?_⟩
    conv => whnf
    refine Fn.use V4 ⟨trivial, ?_⟩
    conv => whnf
    refine ⟨one_bytes _, chkP_of (decide_eq_true f4) ?_⟩
    conv => whnf
    conv => whnf
    refine ⟨?_, ?_⟩
    conv => whnf
    refine ⟨one_bytes _, chkP_of (decide_eq_true f1) ?_⟩
    conv => whnf
    refine Fn.use V2 ⟨trivial, ?_⟩
    conv => whnf
    refine ⟨one_bytes _, chkP_of (decide_eq_true f2) ?_⟩
    conv => whnf
    refine Fn.use V3 ⟨trivial, ?_⟩
    conv => whnf
    refine ⟨one_bytes _, chkP_of (decide_eq_true f3) ?_⟩
    conv => whnf
    refine Fn.use V4 ⟨trivial, ?_⟩
    conv => whnf
    refine ⟨one_bytes _, chkP_of (decide_eq_true f4) ?_⟩
    conv => whnf
    exact trivial
    conv => whnf
    refine ⟨?_, ?_⟩
    conv => whnf
    refine Fn.use V1 ⟨trivial, ?_⟩
    conv => whnf
    refine ⟨one_bytes _, chkP_of (decide_eq_true f1) ?_⟩
    conv => whnf
    refine Fn.use V2 ⟨trivial, ?_⟩
    conv => whnf
    refine ⟨one_bytes _, chkP_of (decide_eq_true f2) ?_⟩
    conv => whnf
    refine Fn.use V3 ⟨trivial, ?_⟩
    conv => whnf
    refine ⟨one_bytes _, chkP_of (decide_eq_true f3) ?_⟩
    conv => whnf
    refine Fn.use V4 ⟨trivial, ?_⟩
    conv => whnf
    refine ⟨one_bytes _, chkP_of (decide_eq_true f4) ?_⟩
    conv => whnf
    exact trivial
    exact trivial
    exact trivial
  rintro t rfl
  clear f1 f2 f3 f4
  conv => whnf
  refine Fn.use (B1) ?_
  conv => whnf
  first | refine ⟨trivial, ?_⟩ | refine ⟨⟨rfl, clr_of rfl⟩, ?_⟩
  conv => whnf
  refine Fn.use (B2) ?_
  conv => whnf
  first | refine ⟨trivial, ?_⟩ | refine ⟨⟨rfl, clr_of rfl⟩, ?_⟩
  conv => whnf
  refine Fn.use (B3) ?_
  conv => whnf
  first | refine ⟨trivial, ?_⟩ | refine ⟨⟨rfl, clr_of rfl⟩, ?_⟩
  conv => whnf
  refine Fn.use (B4) ?_
  conv => whnf
  first | refine ⟨trivial, ?_⟩ | refine ⟨⟨rfl, clr_of rfl⟩, ?_⟩
  conv => whnf
  rw [h4b]
  conv => whnf
  refine ⟨oneB _, ?_⟩
  conv => whnf
  refine chkP_of ?hchk ?_
  case hchk => first | exact decide_eq_true (by omega) | (simp; done) | (simp; omega) | exact decide_eq_true f5
  conv => whnf
  refine Fn.use (V5) ?_
  conv => whnf
  first | refine ⟨trivial, ?_⟩ | refine ⟨⟨rfl, clr_of rfl⟩, ?_⟩
  conv => whnf
  refine ⟨one_bytes _, ?_⟩
  conv => whnf
  refine chkP_of ?hchk ?_
  case hchk => first | exact decide_eq_true (by omega) | (simp; done) | (simp; omega) | exact decide_eq_true f6
  conv => whnf
  exact hfin
end Ev
open Go Ev
open Go.Proofs
set_option maxRecDepth 100000
set_option maxHeartbeats 4000000
set_option linter.unusedVariables false
namespace Ev
theorem sumN_lt (l : List Int) : sumN l < 4294967296 := by
  unfold sumN
  have key : ∀ (l : List Int) (s : Nat), s < 4294967296 → l.foldl sumF s < 4294967296 := by
    intro l
    induction l with
    | nil => intro s h; exact h
    | cons b l ih => intro s _; exact ih _ (sumF_lt _ _)
  exact key l _ (by decide)
theorem implPutTable (mods : List Modu) (hs : Small mods) : Fn Try.prog [] 22 [.agg [.sh 3 (Modu.css mods)]] [] (ret [.own true 1 (byteC (tabB mods))] []) := by
  have hl := Modu.css_len mods
  have H := implIrOk mods hs
  rw [← ir_iff] at H
  have ht : tabB mods = if irS mods = true then bodyB mods ++ fixB 4 (sumN (bodyB mods)) else [] := rfl
  have hn := fun h => nice_of (l := mods) h
  have hbl := fun h => body_len (l := mods) h
  have hby := body_bytes mods
  have hb0 : ([84, 87, 1] ++ vb mods.length) ++ modsB mods = bodyB mods := rfl
  generalize irS mods = c at *
  generalize tabB mods = R at *
  generalize bodyB mods = B at *
  refine fn_of Try.func22 d22 ?_
  conv => whnf
  refine Fn.use (H) ?_
  conv => whnf
  first | refine ⟨trivial, ?_⟩ | refine ⟨⟨rfl, clr_of rfl⟩, ?_⟩
  conv => whnf
  refine ifP_of (fun h => ?_) (fun h => ?_)
  · have h : c = false := by simpa using h
    subst h
    have ht : R = [] := ht
    subst ht
    conv => whnf
    exact ⟨rfl, rfl⟩
  have h : c = true := by simpa using h
  subst h
  rw [if_pos rfl] at ht
  obtain ⟨hm, hn⟩ := hn rfl
  have hbl := hbl rfl
  have hBl := hbl
  conv => whnf
  rw [hl]
  refine Fn.use (implPutVarint mods.length (by omega)) ?_
  conv => whnf
  first | refine ⟨trivial, ?_⟩ | refine ⟨⟨rfl, clr_of rfl⟩, ?_⟩
  conv => whnf
  refine ⟨one_bytes _, ?_⟩
  conv => whnf
  refine chkP_of ?hchk ?_
  case hchk => first | exact decide_eq_true (by omega) | (simp; done) | (simp; omega) | exact decide_eq_true (fits (b := vb mods.length) (out := [84, 87, 1]) (rest := modsB mods) (by rw [← List.append_assoc]; exact hb0) hbl)
  conv => whnf
  rw [hl]
  refine loop_of (A := Nat × List Int) (fun x => ⟨[(3, .hdr 0 []), (20, .sh 3 (Modu.css mods)), (21, .sc (.int .i64 mods.length)), (22, .sc (.int .i64 (x.1 : Nat)))], [(0, some ⟨byteC x.2, true, 1, false⟩)], 1, 106, 0⟩) (fun x => mods.length - x.1) (fun x => x.1 ≤ mods.length ∧ x.2 ++ modsB (mods.drop x.1) = B) (0, [84, 87, 1] ++ vb mods.length) rfl ⟨Nat.zero_le _, hb0⟩ ?_
  clear hb0
  intro ⟨k, out⟩ ⟨hk, hout⟩ X ih
  dsimp only at hk hout
  conv => whnf
  refine ifP_of (fun h2 => ?_) (fun h2 => ?_)
  rotate_left
  · have h2 : k = mods.length := by have := of_decide_eq_false h2; dsimp only at this; omega
    subst h2
    rw [List.drop_eq_nil_of_le (Nat.le_refl _)] at hout
    have hout : out ++ [] = B := hout
    rw [List.append_nil] at hout
    subst hout
    have HS := implSum32 out hby (by omega)
    have HF := implPutFixed4 (sumN out) (sumN_lt out)
    generalize sumN out = s at *
    generalize hF : fixB 4 s = F at *
    have hF4 : F.length = 4 := by rw [← hF, fixB_len]
    have hc : ((byteC out).length + (byteC F).length) * 1 ≤ 140737488355328 := by rw [byteC_len, byteC_len]; omega
    conv => whnf
    refine Fn.use (HS) ?_
    conv => whnf
    first | refine ⟨trivial, ?_⟩ | refine ⟨⟨rfl, clr_of rfl⟩, ?_⟩
    conv => whnf
    refine Fn.use (HF) ?_
    conv => whnf
    first | refine ⟨trivial, ?_⟩ | refine ⟨⟨rfl, clr_of rfl⟩, ?_⟩
    conv => whnf
    refine ⟨one_bytes _, ?_⟩
    conv => whnf
    refine chkP_of ?hchk ?_
    case hchk => first | exact decide_eq_true (by omega) | (simp; done) | (simp; omega) | exact decide_eq_true hc
    conv => whnf
    refine ⟨?_, rfl⟩
    rw [ht, byteC_app]
  have h2 : k < mods.length := by have := of_decide_eq_true h2; dsimp only at this; omega
  have hw : IntKind.i64.wrap ((k : Int) + 1) = ((k + 1 : Nat) : Int) := by rw [wrap64 (by omega) (by omega)]; omega
  have hnm := hn _ (List.getElem_mem h2)
  have hg := Modu.css_get h2
  rw [List.drop_eq_getElem_cons h2] at hout
  generalize mods[k] = m at *
  obtain ⟨ops, jumps, cached⟩ := m
  obtain ⟨ho, hno⟩ := hnm
  dsimp only at ho hno
  have hlo := Opr.css_len ops
  have hlj := intC_len jumps
  have hout : out ++ ((vb ops.length ++ ([mbit ⟨ops, jumps, cached⟩] ++ opsB ops)) ++ modsB (mods.drop (k + 1))) = B := hout
  rw [List.append_assoc, List.append_assoc] at hout
  have f1 := fits hout hbl
  rw [← List.append_assoc] at hout
  have f2 := fits hout hbl
  rw [← List.append_assoc] at hout
  have hbit : mbit ⟨ops, jumps, cached⟩ = bitOf (decide (((intC jumps).length : Int) > 0)) 1 + bitOf cached 2 := by rw [hlj]; rfl
  have hb1 := bit_le (decide (((intC jumps).length : Int) > 0)) (n := 1) (by decide)
  have hb2 := bit_le cached (n := 2) (by decide)
  have h2b := two_bits hb1 hb2
  have HB1 := implBit (decide (((intC jumps).length : Int) > 0)) 1
  have HB2 := implBit cached 2
  generalize bitOf (decide (((intC jumps).length : Int) > 0)) 1 = b1 at *
  generalize bitOf cached 2 = b2 at *
  rw [hbit] at hout f2
  clear hbit
  have HV := implPutVarint ops.length (by omega)
  generalize hvv : vb ops.length = vv at *
  rw [byteC_app] at f2
  have fin : ∀ X : St → Prop, X ⟨[(3, .hdr 0 []), (20, .sh 3 (Modu.css mods)), (21, .sc (.int .i64 mods.length)), (22, .sc (.int .i64 k)), (46, .sh 9 (Opr.css ops)), (47, .sc (.int .i64 ops.length)), (48, .sc (.int .i64 0))], [(0, some ⟨byteC ((out ++ vv) ++ [b1 + b2]), true, 1, false⟩)], 1, 106, 0⟩ → X ⟨[(3, .hdr 0 []), (20, .sh 3 (Modu.css mods)), (21, .sc (.int .i64 mods.length)), (22, .sc (.int .i64 k)), (46, .sh 9 (Opr.css ops)), (47, .sc (.int .i64 ops.length)), (48, .sc (.int .i64 0))], [(0, some ⟨(byteC out ++ byteC vv) ++ [[.sc (.int .u8 (b1 + b2))]], true, 1, false⟩)], 1, 106, 0⟩ := fun X h => by rw [byteC_app, byteC_app] at h; exact h
  conv => whnf
  refine optP_of (hg) ?_
  conv => whnf
  rw [hlo]
  conv => whnf
  refine Fn.use (HV) ?_
  conv => whnf
  first | refine ⟨trivial, ?_⟩ | refine ⟨⟨rfl, clr_of rfl⟩, ?_⟩
  conv => whnf
  refine ⟨one_bytes _, chkP_of (decide_eq_true f1) ?_⟩
  conv => whnf
  refine Fn.use (HB1) ?_
  conv => whnf
  first | refine ⟨trivial, ?_⟩ | refine ⟨⟨rfl, clr_of rfl⟩, ?_⟩
  conv => whnf
  refine Fn.use (HB2) ?_
  conv => whnf
  first | refine ⟨trivial, ?_⟩ | refine ⟨⟨rfl, clr_of rfl⟩, ?_⟩
  conv => whnf
  rw [h2b]
  conv => whnf
  refine ⟨oneB _, chkP_of (decide_eq_true f2) ?_⟩
  conv => whnf
  rw [hlo]
  have hout : ((out ++ vv) ++ [b1 + b2]) ++ (opsB ops ++ modsB (mods.drop (k + 1))) = B := hout
  refine loop_of (A := Nat × List Int) (fun x => ⟨[(3, .hdr 0 []), (20, .sh 3 (Modu.css mods)), (21, .sc (.int .i64 mods.length)), (22, .sc (.int .i64 k)), (46, .sh 9 (Opr.css ops)), (47, .sc (.int .i64 ops.length)), (48, .sc (.int .i64 (x.1 : Nat)))], [(0, some ⟨byteC x.2, true, 1, false⟩)], 1, 106, 0⟩) (fun x => ops.length - x.1) (fun x => x.1 ≤ ops.length ∧ x.2 ++ (opsB (ops.drop x.1) ++ modsB (mods.drop (k + 1))) = B) (0, (out ++ vv) ++ [b1 + b2]) (fin (fun s => s = _) rfl) ⟨Nat.zero_le _, hout⟩ ?_
  clear fin HB1 HB2 h2b hb1 hb2 f1 f2 HV hvv hout
  intro ⟨i, out⟩ ⟨hi, hout⟩ Y ih2
  dsimp only at hi hout
  conv => whnf
  refine ifP_of (fun h3 => ?_) (fun h3 => ?_)
  rotate_left
  · have h3 : i = ops.length := by have := of_decide_eq_false h3; dsimp only at this; omega
    subst h3
    rw [List.drop_eq_nil_of_le (Nat.le_refl _)] at hout
    conv => whnf
    have fin := ih (k + 1, out) ⟨by dsimp only; omega, hout⟩ (by dsimp only; omega)
    dsimp only at fin
    rw [← hw] at fin
    exact fin
  clear ih
  have h3 : i < ops.length := by have := of_decide_eq_true h3; dsimp only at this; omega
  have hw3 : IntKind.i64.wrap ((i : Int) + 1) = ((i + 1 : Nat) : Int) := by rw [wrap64 (by omega) (by omega)]; omega
  have hno := hno _ (List.getElem_mem h3)
  have hgo := Opr.css_get h3
  rw [List.drop_eq_getElem_cons h3] at hout
  generalize ops[i] = o at *
  obtain ⟨num, kind, ref, rep, oneof, tag, quick, run, inl⟩ := o
  obtain ⟨n1, n2, n3, n4, n5⟩ := hno
  dsimp only at n1 n2 n3 n4 n5
  have lt := byteC_len tag
  have li := Opr.css_len inl
  have hL : ∀ n ∈ [num, kind, ref, oneof], 0 ≤ n ∧ n < 536870912 := fun n hn => by
    simp only [List.mem_cons, List.not_mem_nil, or_false] at hn
    rcases hn with rfl | rfl | rfl | rfl <;> assumption
  have hout : out ++ ((vb num.toNat ++ (vb kind.toNat ++ (vb ref.toNat ++ (vb oneof.toNat ++ ([obit ⟨num, kind, ref, rep, oneof, tag, quick, run, inl⟩] ++ vb run.toNat)))) ++ opsB (ops.drop (i + 1))) ++ modsB (mods.drop (k + 1))) = B := hout
  have hfin : ∀ out', out' ++ (opsB (ops.drop (i + 1)) ++ modsB (mods.drop (k + 1))) = B → Y _ := fun out' h => ih2 (i + 1, out') ⟨by dsimp only; omega, h⟩ (by dsimp only; omega)
  clear ih2
  dsimp only at hfin
  rw [← hw3] at hfin
  generalize opsB (ops.drop (i + 1)) = rest1 at *
  generalize modsB (mods.drop (k + 1)) = rest2 at *
  have hL4 : [num, kind, ref, oneof].flatMap (fun n => vb n.toNat) = vb num.toNat ++ (vb kind.toNat ++ (vb ref.toNat ++ vb oneof.toNat)) := by simp
  have hout : out ++ ([num, kind, ref, oneof].flatMap (fun n => vb n.toNat) ++ ([obit ⟨num, kind, ref, rep, oneof, tag, quick, run, inl⟩] ++ (vb run.toNat ++ (rest1 ++ rest2)))) = B := by rw [hL4, ← hout]; simp only [List.append_assoc]
  clear hL4
  obtain ⟨run, rfl⟩ := Int.eq_ofNat_of_zero_le n5.1
  rw [Int.toNat_natCast] at hout
  have V5 := implPutVarint run (by omega)
  generalize vb run = v5 at *
  have hob : obit ⟨num, kind, ref, rep, oneof, tag, quick, run, inl⟩ = bitOf rep 1 + bitOf quick 2 + bitOf (decide (((byteC tag).length : Int) > 0)) 4 + bitOf (decide (((Opr.css inl).length : Int) > 0)) 8 := by rw [lt, li]; rfl
  rw [hob] at hout
  clear hob n1 n2 n3 n4 n5 hbl
  have c1 := bit_le rep (n := 1) (by decide)
  have c2 := bit_le quick (n := 2) (by decide)
  have c3 := bit_le (decide (((byteC tag).length : Int) > 0)) (n := 4) (by decide)
  have c4 := bit_le (decide (((Opr.css inl).length : Int) > 0)) (n := 8) (by decide)
  have h4b := four_bits c1 c2 c3 c4
  have B1 := implBit rep 1
  have B2 := implBit quick 2
  have B3 := implBit (decide (((byteC tag).length : Int) > 0)) 4
  have B4 := implBit (decide (((Opr.css inl).length : Int) > 0)) 8
  generalize bitOf rep 1 = b1 at *
  generalize bitOf quick 2 = b2 at *
  generalize bitOf (decide (((byteC tag).length : Int) > 0)) 4 = b3 at *
  generalize bitOf (decide (((Opr.css inl).length : Int) > 0)) 8 = b4 at *
  clear c1 c2 c3 c4 lt li hw3 hw h2 h3 hi hk hs hl hno ho hlo hlj hm hn hg H ht hby
  conv => whnf
  refine optP_of (hgo) ?_
  conv => whnf
  clear hgo
  refine loop_of (A := Nat × List Int) (fun x => ⟨[(3, .hdr 0 []), (7, .ptr 1 [] 0 0), (20, .sh 3 (Modu.css mods)), (21, .sc (.int .i64 mods.length)), (22, .sc (.int .i64 k)), (46, .sh 9 (Opr.css ops)), (47, .sc (.int .i64 ops.length)), (48, .sc (.int .i64 i)), (60, .hdr 2 []), (61, .sc (.int .i64 4)), (62, .sc (.int .i64 (x.1 : Nat)))], [(0, some ⟨byteC x.2, true, 1, false⟩), (1, some ⟨[[.sc (.int .i64 num), .sc (.int .i64 kind), .sc (.int .i64 ref), .sc (.bool rep), .sc (.int .i64 oneof), .sh 1 (byteC tag), .sc (.bool quick), .sc (.int .i64 run), .sh 9 (Opr.css inl)]], true, 9, true⟩), (2, some ⟨intC [num, kind, ref, oneof], true, 1, false⟩)], 3, 106, 0⟩) (fun x => 4 - x.1) (fun x => x.1 ≤ 4 ∧ x.2 ++ (([num, kind, ref, oneof].drop x.1).flatMap (fun n => vb n.toNat) ++ ([b1 + b2 + b3 + b4] ++ (v5 ++ (rest1 ++ rest2)))) = B) (0, out) rfl ⟨by omega, hout⟩ ?_
  clear hout
  intro ⟨j, out⟩ ⟨hj, hout⟩ Z ih3
  dsimp only at hj hout
  conv => whnf
  refine ifP_of (fun h5 => ?_) (fun h5 => ?_)
  · have h5 : j < 4 := by have := of_decide_eq_true h5; dsimp only at this; omega
    have hj4 : j < [num, kind, ref, oneof].length := h5
    have hg5 := intC_get hj4
    have hLj := hL _ (List.getElem_mem hj4)
    have hw5 : IntKind.i64.wrap ((j : Int) + 1) = ((j + 1 : Nat) : Int) := by rw [wrap64 (by omega) (by omega)]; omega
    rw [List.drop_eq_getElem_cons hj4, List.flatMap_cons, List.append_assoc] at hout
    generalize [num, kind, ref, oneof][j] = n at *
    obtain ⟨n, rfl⟩ := Int.eq_ofNat_of_zero_le hLj.1
    rw [Int.toNat_natCast] at hout
    have V1 := implPutVarint n (by omega)
    generalize vb n = v1 at *
    have f1 := fits hout hBl
    rw [← List.append_assoc] at hout
    have fin := ih3 (j + 1, out ++ v1) ⟨by dsimp only; omega, hout⟩ (by dsimp only; omega)
    dsimp only at fin
    rw [byteC_app, ← hw5] at fin
    clear ih3 hfin hout hLj hL
    conv => whnf
    refine optP_of (hg5) ?_
    conv => whnf
    refine optP_of (hg5) ?_
    conv => whnf
    refine Fn.use (V1) ?_
    conv => whnf
    first | refine ⟨trivial, ?_⟩ | refine ⟨⟨rfl, clr_of rfl⟩, ?_⟩
    conv => whnf
    refine ⟨one_bytes _, chkP_of (decide_eq_true f1) ?_⟩
    conv => whnf
    exact fin
  have h5 : j = 4 := by have := of_decide_eq_false h5; dsimp only at this; omega
  subst h5
  clear ih3
  have hout : out ++ ([b1 + b2 + b3 + b4] ++ (v5 ++ (rest1 ++ rest2))) = B := hout
  have f5 := fits hout hBl
  rw [← List.append_assoc] at hout
  have f6 := fits hout hBl
  rw [← List.append_assoc] at hout
  have hfin := hfin _ hout
  rw [byteC_app] at f6
  rw [byteC_app, byteC_app] at hfin
  clear hout
  conv => whnf
  refine Fn.use (B1) ?_
  conv => whnf
  first | refine ⟨trivial, ?_⟩ | refine ⟨⟨rfl, clr_of rfl⟩, ?_⟩
  conv => whnf
  refine Fn.use (B2) ?_
  conv => whnf
  first | refine ⟨trivial, ?_⟩ | refine ⟨⟨rfl, clr_of rfl⟩, ?_⟩
  conv => whnf
  refine Fn.use (B3) ?_
  conv => whnf
  first | refine ⟨trivial, ?_⟩ | refine ⟨⟨rfl, clr_of rfl⟩, ?_⟩
  conv => whnf
  refine Fn.use (B4) ?_
  conv => whnf
  first | refine ⟨trivial, ?_⟩ | refine ⟨⟨rfl, clr_of rfl⟩, ?_⟩
  conv => whnf
  rw [h4b]
  conv => whnf
  refine ⟨oneB _, chkP_of (decide_eq_true f5) ?_⟩
  conv => whnf
  refine Fn.use (V5) ?_
  conv => whnf
  first | refine ⟨trivial, ?_⟩ | refine ⟨⟨rfl, clr_of rfl⟩, ?_⟩
  conv => whnf
  refine ⟨one_bytes _, chkP_of (decide_eq_true f6) ?_⟩
  conv => whnf
  exact hfin
end Ev
open Go Ev
open Go.Proofs
set_option maxRecDepth 100000
set_option maxHeartbeats 4000000
set_option linter.unusedVariables false
namespace Ev
theorem il' {x y : Int} (h : x = y) : [V.sc (.int .i64 x)] = [V.sc (.int .i64 y)] := by rw [h]
theorem gset {D R : List (List V)} (r : List V) : (D ++ r :: R)[((D.length : Nat) : Int).toNat]? = some r := by
  rw [Int.toNat_natCast, List.getElem?_append_right (Nat.le_refl _), Nat.sub_self]; rfl
theorem pset {D R : List (List V)} (r x : List V) : putAt (fun es => es.set ((D.length : Nat) : Int).toNat x) (D ++ r :: R) [] = D ++ x :: R := by
  show (D ++ r :: R).set ((D.length : Nat) : Int).toNat x = _
  rw [Int.toNat_natCast, List.set_append_right (h := Nat.le_refl _), Nat.sub_self]; rfl
theorem hwk {k : Int} (h0 : 0 ≤ k) (h1 : k ≤ 4611686018427387904) : IntKind.i64.wrap (k + 1) = k + 1 := wrap64 (by omega) (by omega)
theorem hwn {n : Nat} (h1 : n ≤ 4611686018427387904) : IntKind.i64.wrap ((n : Int) + 1) = ((n + 1 : Nat) : Int) := by rw [wrap64 (by omega) (by omega)]; omega
theorem lenl {D R : List (List V)} {r : List V} : decide (((D.length : Nat) : Int) < (((D ++ r :: R).length : Nat) : Int)) = true := by rw [List.length_append, List.length_cons]; exact decide_eq_true (by omega)
theorem ifP_no {b : Bool} {A B : Prop} (h : b = false) (k : B) : ifP b A B := by rw [h]; exact k
theorem ifP_yes {b : Bool} {A B : Prop} (h : b = true) (k : A) : ifP b A B := by rw [h]; exact k
theorem neI (x : Int) : (x != x) = false := by simp
theorem neB (x : Bool) : (x != x) = false := by simp
theorem neS (x : ByteArray) : (!(x.toList == x.toList)) = false := by simp
def mkSt (n fz : Nat) (D R : List (List V)) (k : Int) : St := ⟨[(0, .hdr 0 []), (1, .sc (.int .i64 k)), (5, .sc (.int .i64 D.length))], [(0, some ⟨D ++ R, true, n, false⟩)], 1, fz, 1⟩
def hdSt (n fz : Nat) (D R : List (List V)) (k : Int) : St := ⟨[(0, .sh n (D ++ R)), (1, .sc (.int .i64 k)), (5, .sc (.int .i64 D.length))], [], 0, fz, 0⟩
def eM {α : Type} (n fz : Nat) (css : List α → List (List V)) (x : List α × List α × Int) : St := mkSt n fz (css x.1) (css x.2.1) x.2.2
def eK {α : Type} (n fz : Nat) (cssk : List α → Int → List (List V)) (x : List (List V) × List α × Int) : St := hdSt n fz x.1 (cssk x.2.1 x.2.2) x.2.2
theorem eM_eq {α : Type} (n fz : Nat) (css : List α → List (List V)) (d r : List α) (k : Int) : eM n fz css (d, r, k) = ⟨[(0, .hdr 0 []), (1, .sc (.int .i64 k)), (5, .sc (.int .i64 (css d).length))], [(0, some ⟨css d ++ css r, true, n, false⟩)], 1, fz, 1⟩ := rfl
theorem eK_eq {α : Type} (n fz : Nat) (cssk : List α → Int → List (List V)) (D : List (List V)) (r : List α) (k : Int) : eK n fz cssk (D, r, k) = ⟨[(0, .sh n (D ++ cssk r k)), (1, .sc (.int .i64 k)), (5, .sc (.int .i64 D.length))], [], 0, fz, 0⟩ := rfl
theorem intC_app (d : List Int) (a : Int) (R : List (List V)) : intC d ++ [.sc (.int .i64 a)] :: R = intC (d ++ [a]) ++ R := by unfold intC; rw [List.map_append, List.append_assoc]; rfl
theorem byteC_app' (d : List Int) (a : Int) (R : List (List V)) : byteC d ++ [.sc (.int .u8 a)] :: R = byteC (d ++ [a]) ++ R := by unfold byteC; rw [List.map_append, List.append_assoc]; rfl
theorem strC_app (d : List ByteArray) (a : ByteArray) (R : List (List V)) : strC d ++ [.sc (.string a)] :: R = strC (d ++ [a]) ++ R := by unfold strC; rw [List.map_append, List.append_assoc]; rfl
theorem intC_cons (a : Int) (l : List Int) : intC (a :: l) = [.sc (.int .i64 a)] :: intC l := rfl
theorem byteC_cons (a : Int) (l : List Int) : byteC (a :: l) = [.sc (.int .u8 a)] :: byteC l := rfl
theorem strC_cons (a : ByteArray) (l : List ByteArray) : strC (a :: l) = [.sc (.string a)] :: strC l := rfl
/-- Figures of a number, behind what is there. -/
def figF (x : Int × ByteArray) : Int × ByteArray := (IntKind.i64.wrap (x.1.tdiv 10), (⟨#[(48 + x.1.toNat % 10).toUInt8]⟩ : ByteArray) ++ x.2)
def figs : Nat → Int × ByteArray → ByteArray
  | 0, x => x.2
  | n + 1, x => match decide (x.1 > 0) with
    | true => figs n (figF x)
    | false => x.2
def txtM (k : Int) : ByteArray := match decide (k ≤ 0) with
  | true => ⟨#[109, 48]⟩
  | false => (⟨#[109]⟩ : ByteArray) ++ figs 20 (k, .empty)
def intM : List Int → Int → List Int
  | [], _ => []
  | _ :: l, k => k :: intM l (k + 1)
def byteM : List Int → Int → List Int
  | [], _ => []
  | _ :: l, k => IntKind.u8.wrap k :: byteM l (k + 1)
def strM : List ByteArray → Int → List ByteArray
  | [], _ => []
  | _ :: l, k => txtM k :: strM l (k + 1)
theorem fig_byte {k : Int} (h0 : 0 < k) : IntKind.u8.wrap (IntKind.i64.wrap (48 + k.tmod 10)) = (((48 + k.toNat % 10).toUInt8).toNat : Int) := by
  rw [Int.tmod_eq_emod_of_nonneg (by omega), wrap64 (by omega) (by omega), IntKind.wrap_u8]
  have : ((48 + k.toNat % 10).toUInt8).toNat = 48 + k.toNat % 10 := by
    show (48 + k.toNat % 10) % 256 = _
    omega
  rw [this]; omega
theorem markText_ok (k : Int) (h0 : 0 ≤ k) (h1 : k ≤ 4611686018427387904) : Fn Try.prog [] 152 [.sc (.int .i64 k)] [] (ret [.sc (.string (txtM k))] []) := by
  have hr : txtM k = match decide (k ≤ 0) with
    | true => ⟨#[109, 48]⟩
    | false => (⟨#[109]⟩ : ByteArray) ++ figs 20 (k, .empty) := rfl
  generalize txtM k = R at *
  refine fn_of Try.func152 (by kernel_rfl) ?_
  conv => whnf
  refine ifP_of (fun c0 => ?_) (fun c0 => ?_)
  · rw [c0] at hr
    subst hr
    conv => whnf
    exact ⟨rfl, rfl⟩
  rw [c0] at hr
  dsimp only at hr
  generalize hF : figs 20 (k, .empty) = F at *
  conv => whnf
  refine loop_of (A := Nat × Int × ByteArray) (fun x => ⟨[(0, .sc (.int .i64 x.2.1)), (3, .sc (.string x.2.2))], [], 0, 20, 0⟩) (fun x => x.2.1.toNat) (fun x => 0 ≤ x.2.1 ∧ x.2.1 < 10 ^ x.1 ∧ x.2.1 ≤ 4611686018427387904 ∧ x.2.2.size + x.1 ≤ 20 ∧ figs x.1 (x.2.1, x.2.2) = F) (20, k, .empty) rfl ⟨h0, by show k < 10 ^ 20; omega, h1, Nat.le_refl 20, hF⟩ ?_
  clear hF h0 h1 c0
  intro ⟨n, k, s⟩ ⟨h0, h2, h1, h3, hF⟩ X ih
  dsimp only at h0 h2 h1 h3 hF
  conv => whnf
  refine ifP_of (fun c1 => ?_) (fun c1 => ?_)
  · have c1' : k > 0 := of_decide_eq_true c1
    obtain ⟨n, rfl⟩ : ∃ m, n = m + 1 := ⟨n - 1, by
      rcases n with _ | n
      · have : k < 1 := h2
        omega
      · omega⟩
    rw [figs, show decide ((k, s).1 > 0) = true from c1] at hF
    have hq : IntKind.i64.wrap (k.tdiv 10) = k / 10 := by rw [Int.tdiv_eq_ediv_of_nonneg (by omega)]; exact wrap64 (by omega) (by omega)
    have hb := fig_byte c1'
    have hsz : (⟨#[(48 + k.toNat % 10).toUInt8]⟩ : ByteArray).size = 1 := rfl
    have h4 : k / 10 < 10 ^ n := by
      rw [Int.pow_succ] at h2
      omega
    have fin := ih (n, k / 10, (⟨#[(48 + k.toNat % 10).toUInt8]⟩ : ByteArray) ++ s) ⟨by dsimp only; omega, h4, by dsimp only; omega, by dsimp only; rw [ByteArray.size_append, hsz]; omega, by
      rw [← hF]
      show figs n (k / 10, _) = figs n (figF (k, s))
      rw [figF, hq]⟩ (by dsimp only; omega)
    dsimp only at fin
    rw [← hq] at fin
    clear ih hF
    conv => whnf
    refine ⟨[(48 + k.toNat % 10).toUInt8], ?_, ?_⟩
    · rw [hb]; rfl
    conv => whnf
    refine chkP_of ?hchk ?_
    case hchk => first | exact decide_eq_true (by omega) | (simp; done) | (simp; omega) | exact decide_eq_true (show (⟨#[(48 + k.toNat % 10).toUInt8]⟩ : ByteArray).size + s.size ≤ 9223372036854775807 by rw [hsz]; omega)
    conv => whnf
    exact fin
  · have c1' : ¬ k > 0 := of_decide_eq_false c1
    have h5 : s = F := by
      rw [← hF]
      cases n with
      | zero => rfl
      | succ n => rw [figs, show decide ((k, s).1 > 0) = false from c1]
    subst h5
    conv => whnf
    refine chkP_of ?hchk ?_
    case hchk => first | exact decide_eq_true (by omega) | (simp; done) | (simp; omega) | exact decide_eq_true (show (⟨#[109]⟩ : ByteArray).size + s.size ≤ 9223372036854775807 by have : (⟨#[109]⟩ : ByteArray).size = 1 := rfl; rw [this]; omega)
    conv => whnf
    subst hr
    exact ⟨rfl, rfl⟩
theorem markIntS_ok (l : List Int) (k : Int) (h0 : 0 ≤ k) (hb : k + ((l.length : Nat) : Int) ≤ 4611686018427387904) : Fn Try.prog [] 133 [.hdr 0 [], .sc (.int .i64 k)] [⟨intC l, true, 1, false⟩] (ret [.sc (.int .i64 (k + ((l.length : Nat) : Int)))] [⟨intC (intM l k), true, 1, false⟩]) := by
  have hl : l.length ≤ 4611686018427387904 := by omega
  generalize hF : intM l k = F
  generalize hK : k + ((l.length : Nat) : Int) = K at *
  refine fn_of Try.func133 (by kernel_rfl) ?_
  conv => whnf
  refine loop_of (A := List Int × List Int × Int) (eM 1 19 intC) (fun x => x.2.1.length) (fun x => x.1 ++ intM x.2.1 x.2.2 = F ∧ x.2.2 + ((x.2.1.length : Nat) : Int) = K ∧ 0 ≤ x.2.2 ∧ x.1.length + x.2.1.length ≤ 4611686018427387904) ([], l, k) rfl ⟨hF, hK, h0, by simpa using hl⟩ ?_
  clear hF hK h0 hl
  intro ⟨d, r, k⟩ ⟨h1, h2, h3, h4⟩ X ih
  dsimp only at h1 h2 h3 h4
  cases r with
  | nil =>
    have h6 : d = F := by rw [← h1]; simp [intM]
    rw [eM_eq, show intC [] = [] from rfl, List.append_nil]
    subst h6
    generalize intC d = D at *
    conv => whnf
    refine ifP_of (fun c1 => ?_) (fun c1 => ?_)
    · have := of_decide_eq_true c1; omega
    · conv => whnf
      exact ⟨il' (by rw [← h2]; simp), rfl⟩
  | cons a r =>
    rw [show List.length (a :: r) = r.length + 1 from by rfl] at h2
    rw [List.length_cons] at h4
    have fin := ih (d ++ [k], r, k + 1) ⟨by dsimp only; rw [← h1, intM, List.append_assoc]; rfl, by dsimp only; omega, by dsimp only; omega, by dsimp only; rw [List.length_append, List.length_singleton]; omega⟩ (by dsimp only; rw [List.length_cons]; omega)
    rw [eM_eq, ← intC_app] at fin
    rw [show ((intC (d ++ [k])).length : Nat) = (intC d).length + 1 by rw [intC_len, intC_len, List.length_append]; rfl] at fin
    rw [eM_eq]
    have hlen : (intC d).length = d.length := intC_len _
    have hw2 := hwn (n := (intC d).length) (by omega)
    clear ih h1
    generalize intC d = D at *
    rw [show intC (a :: r) = [.sc (.int .i64 a)] :: intC r from rfl]
    generalize intC r = R at *
    conv => whnf
    refine ifP_yes lenl ?_
    conv => whnf
    repeat' (first
      | (refine optP_of (gset _) ?_; (conv => whnf))
      | rw [pset]
      | rw [hwk (k := k) (by omega) (by omega)]
      | rw [hw2])
    exact fin
theorem heldIntS_ok (l : List Int) (k : Int) (h0 : 0 ≤ k) (hb : k + ((l.length : Nat) : Int) ≤ 4611686018427387904) : Fn Try.prog [] 158 [.sh 1 (intC (intM l k)), .sc (.int .i64 k)] [] (ret [.sc (.int .i64 (k + ((l.length : Nat) : Int)))] []) := by
  have hl : l.length ≤ 4611686018427387904 := by omega
  generalize hK : k + ((l.length : Nat) : Int) = K at *
  refine fn_of Try.func158 (by kernel_rfl) ?_
  conv => whnf
  refine loop_of (A := List (List V) × List Int × Int) (eK 1 21 (fun r k => intC (intM r k))) (fun x => x.2.1.length) (fun x => x.2.2 + ((x.2.1.length : Nat) : Int) = K ∧ 0 ≤ x.2.2 ∧ x.1.length + x.2.1.length ≤ 4611686018427387904) ([], l, k) rfl ⟨hK, h0, by simpa using hl⟩ ?_
  clear hK h0 hl
  intro ⟨D, r, k⟩ ⟨h2, h3, h4⟩ X ih
  dsimp only at h2 h3 h4
  cases r with
  | nil =>
    rw [eK_eq, show intC (intM [] k) = [] from by rw [intM]; rfl, List.append_nil]
    conv => whnf
    refine ifP_of (fun c1 => ?_) (fun c1 => ?_)
    · have := of_decide_eq_true c1; omega
    · conv => whnf
      exact ⟨il' (by rw [← h2]; simp), rfl⟩
  | cons a r =>
    rw [show List.length (a :: r) = r.length + 1 from by rfl] at h2
    rw [List.length_cons] at h4
    have fin := ih (D ++ [[.sc (.int .i64 k)]], r, k + 1) ⟨by dsimp only; omega, by dsimp only; omega, by dsimp only; rw [List.length_append, List.length_singleton]; omega⟩ (by dsimp only; rw [List.length_cons]; omega)
    rw [eK_eq, List.append_assoc, List.length_append, List.length_singleton] at fin
    rw [eK_eq, show intC (intM (a :: r) k) = [.sc (.int .i64 k)] :: intC (intM r (k + 1)) from by rw [intM, intC_cons]]
    have fin : X ⟨[(0, .sh 1 (D ++ [.sc (.int .i64 k)] :: intC (intM r (k + 1)))), (1, .sc (.int .i64 (k + 1))), (5, .sc (.int .i64 ((D.length + 1 : Nat) : Int)))], [], 0, 21, 0⟩ := fin
    have hw2 := hwn (n := D.length) (by omega)
    clear ih
    generalize intC (intM r (k + 1)) = R at *
    conv => whnf
    refine ifP_yes lenl ?_
    conv => whnf
    repeat' (first
      | (refine optP_of (gset _) ?_; (conv => whnf))
      | rw [hwk (k := k) (by omega) (by omega)]
      | rw [hw2]
      | (refine ifP_no (neI _) ?_; (conv => whnf))
      | (refine ifP_no (neB _) ?_; (conv => whnf))
      | (refine ifP_no (neS _) ?_; (conv => whnf))
      | (refine ifP_no (decide_eq_false (by omega)) ?_; (conv => whnf)))
    exact fin
theorem markByteS_ok (l : List Int) (k : Int) (h0 : 0 ≤ k) (hb : k + ((l.length : Nat) : Int) ≤ 4611686018427387904) : Fn Try.prog [] 25 [.hdr 0 [], .sc (.int .i64 k)] [⟨byteC l, true, 1, false⟩] (ret [.sc (.int .i64 (k + ((l.length : Nat) : Int)))] [⟨byteC (byteM l k), true, 1, false⟩]) := by
  have hl : l.length ≤ 4611686018427387904 := by omega
  generalize hF : byteM l k = F
  generalize hK : k + ((l.length : Nat) : Int) = K at *
  refine fn_of Try.func25 (by kernel_rfl) ?_
  conv => whnf
  refine loop_of (A := List Int × List Int × Int) (eM 1 20 byteC) (fun x => x.2.1.length) (fun x => x.1 ++ byteM x.2.1 x.2.2 = F ∧ x.2.2 + ((x.2.1.length : Nat) : Int) = K ∧ 0 ≤ x.2.2 ∧ x.1.length + x.2.1.length ≤ 4611686018427387904) ([], l, k) rfl ⟨hF, hK, h0, by simpa using hl⟩ ?_
  clear hF hK h0 hl
  intro ⟨d, r, k⟩ ⟨h1, h2, h3, h4⟩ X ih
  dsimp only at h1 h2 h3 h4
  cases r with
  | nil =>
    have h6 : d = F := by rw [← h1]; simp [byteM]
    rw [eM_eq, show byteC [] = [] from rfl, List.append_nil]
    subst h6
    generalize byteC d = D at *
    conv => whnf
    refine ifP_of (fun c1 => ?_) (fun c1 => ?_)
    · have := of_decide_eq_true c1; omega
    · conv => whnf
      exact ⟨il' (by rw [← h2]; simp), rfl⟩
  | cons a r =>
    rw [show List.length (a :: r) = r.length + 1 from by rfl] at h2
    rw [List.length_cons] at h4
    have fin := ih (d ++ [(IntKind.u8.wrap k)], r, k + 1) ⟨by dsimp only; rw [← h1, byteM, List.append_assoc]; rfl, by dsimp only; omega, by dsimp only; omega, by dsimp only; rw [List.length_append, List.length_singleton]; omega⟩ (by dsimp only; rw [List.length_cons]; omega)
    rw [eM_eq, ← byteC_app'] at fin
    rw [show ((byteC (d ++ [(IntKind.u8.wrap k)])).length : Nat) = (byteC d).length + 1 by rw [byteC_len, byteC_len, List.length_append]; rfl] at fin
    rw [eM_eq]
    have hlen : (byteC d).length = d.length := byteC_len _
    have hw2 := hwn (n := (byteC d).length) (by omega)
    clear ih h1
    generalize byteC d = D at *
    rw [show byteC (a :: r) = [.sc (.int .u8 a)] :: byteC r from rfl]
    generalize byteC r = R at *
    conv => whnf
    refine ifP_yes lenl ?_
    conv => whnf
    repeat' (first
      | (refine optP_of (gset _) ?_; (conv => whnf))
      | rw [pset]
      | rw [hwk (k := k) (by omega) (by omega)]
      | rw [hw2])
    exact fin
theorem heldByteS_ok (l : List Int) (k : Int) (h0 : 0 ≤ k) (hb : k + ((l.length : Nat) : Int) ≤ 4611686018427387904) : Fn Try.prog [] 26 [.sh 1 (byteC (byteM l k)), .sc (.int .i64 k)] [] (ret [.sc (.int .i64 (k + ((l.length : Nat) : Int)))] []) := by
  have hl : l.length ≤ 4611686018427387904 := by omega
  generalize hK : k + ((l.length : Nat) : Int) = K at *
  refine fn_of Try.func26 (by kernel_rfl) ?_
  conv => whnf
  refine loop_of (A := List (List V) × List Int × Int) (eK 1 22 (fun r k => byteC (byteM r k))) (fun x => x.2.1.length) (fun x => x.2.2 + ((x.2.1.length : Nat) : Int) = K ∧ 0 ≤ x.2.2 ∧ x.1.length + x.2.1.length ≤ 4611686018427387904) ([], l, k) rfl ⟨hK, h0, by simpa using hl⟩ ?_
  clear hK h0 hl
  intro ⟨D, r, k⟩ ⟨h2, h3, h4⟩ X ih
  dsimp only at h2 h3 h4
  cases r with
  | nil =>
    rw [eK_eq, show byteC (byteM [] k) = [] from by rw [byteM]; rfl, List.append_nil]
    conv => whnf
    refine ifP_of (fun c1 => ?_) (fun c1 => ?_)
    · have := of_decide_eq_true c1; omega
    · conv => whnf
      exact ⟨il' (by rw [← h2]; simp), rfl⟩
  | cons a r =>
    rw [show List.length (a :: r) = r.length + 1 from by rfl] at h2
    rw [List.length_cons] at h4
    have fin := ih (D ++ [[.sc (.int .u8 (IntKind.u8.wrap k))]], r, k + 1) ⟨by dsimp only; omega, by dsimp only; omega, by dsimp only; rw [List.length_append, List.length_singleton]; omega⟩ (by dsimp only; rw [List.length_cons]; omega)
    rw [eK_eq, List.append_assoc, List.length_append, List.length_singleton] at fin
    rw [eK_eq, show byteC (byteM (a :: r) k) = [.sc (.int .u8 (IntKind.u8.wrap k))] :: byteC (byteM r (k + 1)) from by rw [byteM, byteC_cons]]
    have fin : X ⟨[(0, .sh 1 (D ++ [.sc (.int .u8 (IntKind.u8.wrap k))] :: byteC (byteM r (k + 1)))), (1, .sc (.int .i64 (k + 1))), (5, .sc (.int .i64 ((D.length + 1 : Nat) : Int)))], [], 0, 22, 0⟩ := fin
    have hw2 := hwn (n := D.length) (by omega)
    clear ih
    generalize byteC (byteM r (k + 1)) = R at *
    conv => whnf
    refine ifP_yes lenl ?_
    conv => whnf
    repeat' (first
      | (refine optP_of (gset _) ?_; (conv => whnf))
      | rw [hwk (k := k) (by omega) (by omega)]
      | rw [hw2]
      | (refine ifP_no (neI _) ?_; (conv => whnf))
      | (refine ifP_no (neB _) ?_; (conv => whnf))
      | (refine ifP_no (neS _) ?_; (conv => whnf))
      | (refine ifP_no (decide_eq_false (by omega)) ?_; (conv => whnf)))
    exact fin
mutual
def Opr.cn : Opr → Nat
  | ⟨num, kind, ref, rep, oneof, tag, quick, run, inl⟩ => 1 + 1 + 1 + 1 + 1 + tag.length + 1 + 1 + Opr.cns inl
def Opr.cns : List Opr → Nat
  | [] => 0
  | a :: l => a.cn + Opr.cns l
end
mutual
def Opr.mk' : Opr → Int → Opr
  | ⟨num, kind, ref, rep, oneof, tag, quick, run, inl⟩, k => ⟨k, k + 1, k + 1 + 1, ((k + 1 + 1 + 1).tmod 3 == 0), k + 1 + 1 + 1 + 1, byteM tag (k + 1 + 1 + 1 + 1 + 1), ((k + 1 + 1 + 1 + 1 + 1 + ((tag.length : Nat) : Int)).tmod 3 == 0), k + 1 + 1 + 1 + 1 + 1 + ((tag.length : Nat) : Int) + 1, Opr.mks inl (k + 1 + 1 + 1 + 1 + 1 + ((tag.length : Nat) : Int) + 1 + 1)⟩
def Opr.mks : List Opr → Int → List Opr
  | [], _ => []
  | a :: l, k => a.mk' k :: Opr.mks l (k + ((a.cn : Nat) : Int))
end
theorem Opr.cns_ge : ∀ (l : List Opr), l.length ≤ Opr.cns l
  | [] => Nat.zero_le _
  | ⟨num, kind, ref, rep, oneof, tag, quick, run, inl⟩ :: l => by
    have := Opr.cns_ge l
    rw [List.length_cons, Opr.cns, Opr.cn]; omega
theorem Opr.mks_len : ∀ (l : List Opr) (k : Int), (Opr.mks l k).length = l.length
  | [], _ => by rw [Opr.mks]
  | a :: l, k => by rw [Opr.mks, List.length_cons, List.length_cons, Opr.mks_len l]
theorem Opr.css_cons (a : Opr) (l : List Opr) : Opr.css (a :: l) = a.cells :: Opr.css l := by rw [Opr.css, Opr.cs_eq]
theorem Opr.css_app (d : List Opr) (a : Opr) (R : List (List V)) : Opr.css d ++ a.cells :: R = Opr.css (d ++ [a]) ++ R := by
  induction d with
  | nil => rw [Opr.css, List.nil_append, List.nil_append, Opr.css, Opr.cs_eq, Opr.css]; rfl
  | cons b d ih => rw [Opr.css, List.cons_append, List.cons_append, Opr.css, ih]; rfl
def Modu.cn : Modu → Nat
  | ⟨ops, jumps, cached⟩ => Opr.cns ops + jumps.length + 1
def Modu.cns : List Modu → Nat
  | [] => 0
  | a :: l => a.cn + Modu.cns l
def Modu.mk' : Modu → Int → Modu
  | ⟨ops, jumps, cached⟩, k => ⟨Opr.mks ops (k), intM jumps (k + ((Opr.cns ops : Nat) : Int)), ((k + ((Opr.cns ops : Nat) : Int) + ((jumps.length : Nat) : Int)).tmod 3 == 0)⟩
def Modu.mks : List Modu → Int → List Modu
  | [], _ => []
  | a :: l, k => a.mk' k :: Modu.mks l (k + ((a.cn : Nat) : Int))
theorem Modu.cns_ge : ∀ (l : List Modu), l.length ≤ Modu.cns l
  | [] => Nat.zero_le _
  | ⟨ops, jumps, cached⟩ :: l => by
    have := Modu.cns_ge l
    rw [List.length_cons, Modu.cns, Modu.cn]; omega
theorem Modu.mks_len : ∀ (l : List Modu) (k : Int), (Modu.mks l k).length = l.length
  | [], _ => by rw [Modu.mks]
  | a :: l, k => by rw [Modu.mks, List.length_cons, List.length_cons, Modu.mks_len l]
theorem Modu.css_cons (a : Modu) (l : List Modu) : Modu.css (a :: l) = a.cells :: Modu.css l := by rw [Modu.css, Modu.cs_eq]
theorem Modu.css_app (d : List Modu) (a : Modu) (R : List (List V)) : Modu.css d ++ a.cells :: R = Modu.css (d ++ [a]) ++ R := by
  induction d with
  | nil => rw [Modu.css, List.nil_append, List.nil_append, Modu.css, Modu.cs_eq, Modu.css]; rfl
  | cons b d ih => rw [Modu.css, List.cons_append, List.cons_append, Modu.css, ih]; rfl
theorem markOprS_ok (l : List Opr) (k : Int) (h0 : 0 ≤ k) (hb : k + ((Opr.cns l : Nat) : Int) ≤ 4611686018427387904) (IH : ∀ a ∈ l, ∀ k : Int, 0 ≤ k → k + ((Opr.cns a.inl : Nat) : Int) ≤ 4611686018427387904 → Fn Try.prog [] 132 [.hdr 0 [], .sc (.int .i64 k)] [⟨Opr.css a.inl, true, 9, false⟩] (ret [.sc (.int .i64 (k + ((Opr.cns a.inl : Nat) : Int)))] [⟨Opr.css (Opr.mks a.inl k), true, 9, false⟩])) : Fn Try.prog [] 132 [.hdr 0 [], .sc (.int .i64 k)] [⟨Opr.css l, true, 9, false⟩] (ret [.sc (.int .i64 (k + ((Opr.cns l : Nat) : Int)))] [⟨Opr.css (Opr.mks l k), true, 9, false⟩]) := by
  have hl : l.length ≤ 4611686018427387904 := by have := Opr.cns_ge l; omega
  generalize hF : Opr.mks l k = F
  generalize hK : k + ((Opr.cns l : Nat) : Int) = K at *
  refine fn_of Try.func132 (by kernel_rfl) ?_
  conv => whnf
  refine loop_of (A := List Opr × List Opr × Int) (eM 9 80 Opr.css) (fun x => x.2.1.length) (fun x => x.1 ++ Opr.mks x.2.1 x.2.2 = F ∧ x.2.2 + ((Opr.cns x.2.1 : Nat) : Int) = K ∧ 0 ≤ x.2.2 ∧ x.1.length + x.2.1.length ≤ 4611686018427387904 ∧ ∀ y ∈ x.2.1, y ∈ l) ([], l, k) rfl ⟨hF, hK, h0, by simpa using hl, fun y hy => hy⟩ ?_
  clear hF hK h0 hl
  intro ⟨d, r, k⟩ ⟨h1, h2, h3, h4, h5⟩ X ih
  dsimp only at h1 h2 h3 h4 h5
  cases r with
  | nil =>
    have h6 : d = F := by rw [← h1]; simp [Opr.mks]
    rw [eM_eq, show Opr.css [] = [] from rfl, List.append_nil]
    subst h6
    generalize Opr.css d = D at *
    conv => whnf
    refine ifP_of (fun c1 => ?_) (fun c1 => ?_)
    · have := of_decide_eq_true c1; omega
    · conv => whnf
      exact ⟨il' (by rw [← h2]; simp [Opr.cns]), rfl⟩
  | cons a r =>
    rw [show Opr.cns (a :: r) = a.cn + Opr.cns r from by rw [Opr.cns]] at h2
    rw [List.length_cons] at h4
    have fin := ih (d ++ [(a.mk' k)], r, k + ((a.cn : Nat) : Int)) ⟨by dsimp only; rw [← h1, Opr.mks, List.append_assoc]; rfl, by dsimp only; omega, by dsimp only; omega, by dsimp only; rw [List.length_append, List.length_singleton]; omega, fun y hy => h5 y (List.mem_cons_of_mem _ hy)⟩ (by dsimp only; rw [List.length_cons]; omega)
    rw [eM_eq, ← Opr.css_app] at fin
    rw [show ((Opr.css (d ++ [(a.mk' k)])).length : Nat) = (Opr.css d).length + 1 by rw [Opr.css_len, Opr.css_len, List.length_append]; rfl] at fin
    rw [eM_eq]
    have hlen : (Opr.css d).length = d.length := Opr.css_len _
    have hw2 := hwn (n := (Opr.css d).length) (by omega)
    clear ih h1
    obtain ⟨num, kind, ref, rep, oneof, tag, quick, run, inl⟩ := a
    have hcn : Opr.cn ⟨num, kind, ref, rep, oneof, tag, quick, run, inl⟩ = 1 + 1 + 1 + 1 + 1 + tag.length + 1 + 1 + Opr.cns inl := by rw [Opr.cn]
    rw [hcn] at h2
    rw [show k + ((Opr.cn ⟨num, kind, ref, rep, oneof, tag, quick, run, inl⟩ : Nat) : Int) = k + 1 + 1 + 1 + 1 + 1 + ((tag.length : Nat) : Int) + 1 + 1 + ((Opr.cns inl : Nat) : Int) from by rw [hcn]; omega, show Opr.mk' ⟨num, kind, ref, rep, oneof, tag, quick, run, inl⟩ k = ⟨k, k + 1, k + 1 + 1, ((k + 1 + 1 + 1).tmod 3 == 0), k + 1 + 1 + 1 + 1, byteM tag (k + 1 + 1 + 1 + 1 + 1), ((k + 1 + 1 + 1 + 1 + 1 + ((tag.length : Nat) : Int)).tmod 3 == 0), k + 1 + 1 + 1 + 1 + 1 + ((tag.length : Nat) : Int) + 1, Opr.mks inl (k + 1 + 1 + 1 + 1 + 1 + ((tag.length : Nat) : Int) + 1 + 1)⟩ from by rw [Opr.mk']] at fin
    have IHa := IH _ (h5 _ (List.mem_cons_self ..))
    dsimp only at IHa
    generalize Opr.css d = D at *
    rw [show Opr.css (⟨num, kind, ref, rep, oneof, tag, quick, run, inl⟩ :: r) = Opr.cells ⟨num, kind, ref, rep, oneof, tag, quick, run, inl⟩ :: Opr.css r from Opr.css_cons ..]
    generalize Opr.css r = R at *
    conv => whnf
    refine ifP_yes lenl ?_
    conv => whnf
    repeat' (first
      | (refine optP_of (gset _) ?_; (conv => whnf))
      | (refine Fn.use (markByteS_ok tag (k + 1 + 1 + 1 + 1 + 1) (by omega) (by omega)) ?_; (conv => whnf); (first | refine ⟨trivial, ?_⟩ | refine ⟨⟨rfl, clr_of rfl⟩, ?_⟩); (conv => whnf))
      | (refine Fn.use (IHa (k + 1 + 1 + 1 + 1 + 1 + ((tag.length : Nat) : Int) + 1 + 1) (by omega) (by omega)) ?_; (conv => whnf); (first | refine ⟨trivial, ?_⟩ | refine ⟨⟨rfl, clr_of rfl⟩, ?_⟩); (conv => whnf))
      | rw [pset]
      | rw [hwk (k := k) (by omega) (by omega)]
      | rw [hwk (k := k + 1) (by omega) (by omega)]
      | rw [hwk (k := k + 1 + 1) (by omega) (by omega)]
      | rw [hwk (k := k + 1 + 1 + 1) (by omega) (by omega)]
      | rw [hwk (k := k + 1 + 1 + 1 + 1) (by omega) (by omega)]
      | rw [hwk (k := k + 1 + 1 + 1 + 1 + 1 + ((tag.length : Nat) : Int)) (by omega) (by omega)]
      | rw [hwk (k := k + 1 + 1 + 1 + 1 + 1 + ((tag.length : Nat) : Int) + 1) (by omega) (by omega)]
      | rw [hw2])
    exact fin
theorem markOprS_rec : ∀ (n : Nat) (l : List Opr), sizeOf l < n → ∀ k : Int, 0 ≤ k → k + ((Opr.cns l : Nat) : Int) ≤ 4611686018427387904 → Fn Try.prog [] 132 [.hdr 0 [], .sc (.int .i64 k)] [⟨Opr.css l, true, 9, false⟩] (ret [.sc (.int .i64 (k + ((Opr.cns l : Nat) : Int)))] [⟨Opr.css (Opr.mks l k), true, 9, false⟩])
  | 0, l, hn, _, _, _ => by omega
  | n + 1, l, hn, k, h0, h1 => markOprS_ok l k h0 h1 (fun a ha k h0 h1 => markOprS_rec n a.inl (by
      have h2 := List.sizeOf_lt_of_mem ha
      obtain ⟨num, kind, ref, rep, oneof, tag, quick, run, inl⟩ := a
      simp at h2
      dsimp only
      omega) k h0 h1)
theorem markOprS_all (l : List Opr) (k : Int) (h0 : 0 ≤ k) (h1 : k + ((Opr.cns l : Nat) : Int) ≤ 4611686018427387904) : Fn Try.prog [] 132 [.hdr 0 [], .sc (.int .i64 k)] [⟨Opr.css l, true, 9, false⟩] (ret [.sc (.int .i64 (k + ((Opr.cns l : Nat) : Int)))] [⟨Opr.css (Opr.mks l k), true, 9, false⟩]) := markOprS_rec _ l (Nat.lt_succ_self _) k h0 h1
theorem heldOprS_ok (l : List Opr) (k : Int) (h0 : 0 ≤ k) (hb : k + ((Opr.cns l : Nat) : Int) ≤ 4611686018427387904) (IH : ∀ a ∈ l, ∀ k : Int, 0 ≤ k → k + ((Opr.cns a.inl : Nat) : Int) ≤ 4611686018427387904 → Fn Try.prog [] 166 [.sh 9 (Opr.css (Opr.mks a.inl k)), .sc (.int .i64 k)] [] (ret [.sc (.int .i64 (k + ((Opr.cns a.inl : Nat) : Int)))] [])) : Fn Try.prog [] 166 [.sh 9 (Opr.css (Opr.mks l k)), .sc (.int .i64 k)] [] (ret [.sc (.int .i64 (k + ((Opr.cns l : Nat) : Int)))] []) := by
  have hl : l.length ≤ 4611686018427387904 := by have := Opr.cns_ge l; omega
  generalize hK : k + ((Opr.cns l : Nat) : Int) = K at *
  refine fn_of Try.func166 (by kernel_rfl) ?_
  conv => whnf
  refine loop_of (A := List (List V) × List Opr × Int) (eK 9 98 (fun r k => Opr.css (Opr.mks r k))) (fun x => x.2.1.length) (fun x => x.2.2 + ((Opr.cns x.2.1 : Nat) : Int) = K ∧ 0 ≤ x.2.2 ∧ x.1.length + x.2.1.length ≤ 4611686018427387904 ∧ ∀ y ∈ x.2.1, y ∈ l) ([], l, k) rfl ⟨hK, h0, by simpa using hl, fun y hy => hy⟩ ?_
  clear hK h0 hl
  intro ⟨D, r, k⟩ ⟨h2, h3, h4, h5⟩ X ih
  dsimp only at h2 h3 h4 h5
  cases r with
  | nil =>
    rw [eK_eq, show Opr.css (Opr.mks [] k) = [] from by rw [Opr.mks]; rfl, List.append_nil]
    conv => whnf
    refine ifP_of (fun c1 => ?_) (fun c1 => ?_)
    · have := of_decide_eq_true c1; omega
    · conv => whnf
      exact ⟨il' (by rw [← h2]; simp [Opr.cns]), rfl⟩
  | cons a r =>
    rw [show Opr.cns (a :: r) = a.cn + Opr.cns r from by rw [Opr.cns]] at h2
    rw [List.length_cons] at h4
    have fin := ih (D ++ [Opr.cells (a.mk' k)], r, k + ((a.cn : Nat) : Int)) ⟨by dsimp only; omega, by dsimp only; omega, by dsimp only; rw [List.length_append, List.length_singleton]; omega, fun y hy => h5 y (List.mem_cons_of_mem _ hy)⟩ (by dsimp only; rw [List.length_cons]; omega)
    rw [eK_eq, List.append_assoc, List.length_append, List.length_singleton] at fin
    rw [eK_eq, show Opr.css (Opr.mks (a :: r) k) = Opr.cells (a.mk' k) :: Opr.css (Opr.mks r (k + ((a.cn : Nat) : Int))) from by rw [Opr.mks, Opr.css_cons]]
    have fin : X ⟨[(0, .sh 9 (D ++ Opr.cells (a.mk' k) :: Opr.css (Opr.mks r (k + ((a.cn : Nat) : Int))))), (1, .sc (.int .i64 (k + ((a.cn : Nat) : Int)))), (5, .sc (.int .i64 ((D.length + 1 : Nat) : Int)))], [], 0, 98, 0⟩ := fin
    have hw2 := hwn (n := D.length) (by omega)
    clear ih
    obtain ⟨num, kind, ref, rep, oneof, tag, quick, run, inl⟩ := a
    have hcn : Opr.cn ⟨num, kind, ref, rep, oneof, tag, quick, run, inl⟩ = 1 + 1 + 1 + 1 + 1 + tag.length + 1 + 1 + Opr.cns inl := by rw [Opr.cn]
    rw [hcn] at h2
    rw [show k + ((Opr.cn ⟨num, kind, ref, rep, oneof, tag, quick, run, inl⟩ : Nat) : Int) = k + 1 + 1 + 1 + 1 + 1 + ((tag.length : Nat) : Int) + 1 + 1 + ((Opr.cns inl : Nat) : Int) from by rw [hcn]; omega, show Opr.mk' ⟨num, kind, ref, rep, oneof, tag, quick, run, inl⟩ k = ⟨k, k + 1, k + 1 + 1, ((k + 1 + 1 + 1).tmod 3 == 0), k + 1 + 1 + 1 + 1, byteM tag (k + 1 + 1 + 1 + 1 + 1), ((k + 1 + 1 + 1 + 1 + 1 + ((tag.length : Nat) : Int)).tmod 3 == 0), k + 1 + 1 + 1 + 1 + 1 + ((tag.length : Nat) : Int) + 1, Opr.mks inl (k + 1 + 1 + 1 + 1 + 1 + ((tag.length : Nat) : Int) + 1 + 1)⟩ from by rw [Opr.mk']] at fin
    rw [show k + ((Opr.cn ⟨num, kind, ref, rep, oneof, tag, quick, run, inl⟩ : Nat) : Int) = k + 1 + 1 + 1 + 1 + 1 + ((tag.length : Nat) : Int) + 1 + 1 + ((Opr.cns inl : Nat) : Int) from by rw [hcn]; omega, show Opr.mk' ⟨num, kind, ref, rep, oneof, tag, quick, run, inl⟩ k = ⟨k, k + 1, k + 1 + 1, ((k + 1 + 1 + 1).tmod 3 == 0), k + 1 + 1 + 1 + 1, byteM tag (k + 1 + 1 + 1 + 1 + 1), ((k + 1 + 1 + 1 + 1 + 1 + ((tag.length : Nat) : Int)).tmod 3 == 0), k + 1 + 1 + 1 + 1 + 1 + ((tag.length : Nat) : Int) + 1, Opr.mks inl (k + 1 + 1 + 1 + 1 + 1 + ((tag.length : Nat) : Int) + 1 + 1)⟩ from by rw [Opr.mk']]
    have IHa := IH _ (h5 _ (List.mem_cons_self ..))
    dsimp only at IHa
    generalize Opr.css (Opr.mks r (k + 1 + 1 + 1 + 1 + 1 + ((tag.length : Nat) : Int) + 1 + 1 + ((Opr.cns inl : Nat) : Int))) = R at *
    conv => whnf
    refine ifP_yes lenl ?_
    conv => whnf
    repeat' (first
      | (refine optP_of (gset _) ?_; (conv => whnf))
      | (refine Fn.use (heldByteS_ok tag (k + 1 + 1 + 1 + 1 + 1) (by omega) (by omega)) ?_; (conv => whnf); (first | refine ⟨trivial, ?_⟩ | refine ⟨⟨rfl, clr_of rfl⟩, ?_⟩); (conv => whnf))
      | (refine Fn.use (IHa (k + 1 + 1 + 1 + 1 + 1 + ((tag.length : Nat) : Int) + 1 + 1) (by omega) (by omega)) ?_; (conv => whnf); (first | refine ⟨trivial, ?_⟩ | refine ⟨⟨rfl, clr_of rfl⟩, ?_⟩); (conv => whnf))
      | rw [hwk (k := k) (by omega) (by omega)]
      | rw [hwk (k := k + 1) (by omega) (by omega)]
      | rw [hwk (k := k + 1 + 1) (by omega) (by omega)]
      | rw [hwk (k := k + 1 + 1 + 1) (by omega) (by omega)]
      | rw [hwk (k := k + 1 + 1 + 1 + 1) (by omega) (by omega)]
      | rw [hwk (k := k + 1 + 1 + 1 + 1 + 1 + ((tag.length : Nat) : Int)) (by omega) (by omega)]
      | rw [hwk (k := k + 1 + 1 + 1 + 1 + 1 + ((tag.length : Nat) : Int) + 1) (by omega) (by omega)]
      | rw [hw2]
      | (refine ifP_no (neI _) ?_; (conv => whnf))
      | (refine ifP_no (neB _) ?_; (conv => whnf))
      | (refine ifP_no (neS _) ?_; (conv => whnf))
      | (refine ifP_no (decide_eq_false (by omega)) ?_; (conv => whnf)))
    exact fin
theorem heldOprS_rec : ∀ (n : Nat) (l : List Opr), sizeOf l < n → ∀ k : Int, 0 ≤ k → k + ((Opr.cns l : Nat) : Int) ≤ 4611686018427387904 → Fn Try.prog [] 166 [.sh 9 (Opr.css (Opr.mks l k)), .sc (.int .i64 k)] [] (ret [.sc (.int .i64 (k + ((Opr.cns l : Nat) : Int)))] [])
  | 0, l, hn, _, _, _ => by omega
  | n + 1, l, hn, k, h0, h1 => heldOprS_ok l k h0 h1 (fun a ha k h0 h1 => heldOprS_rec n a.inl (by
      have h2 := List.sizeOf_lt_of_mem ha
      obtain ⟨num, kind, ref, rep, oneof, tag, quick, run, inl⟩ := a
      simp at h2
      dsimp only
      omega) k h0 h1)
theorem heldOprS_all (l : List Opr) (k : Int) (h0 : 0 ≤ k) (h1 : k + ((Opr.cns l : Nat) : Int) ≤ 4611686018427387904) : Fn Try.prog [] 166 [.sh 9 (Opr.css (Opr.mks l k)), .sc (.int .i64 k)] [] (ret [.sc (.int .i64 (k + ((Opr.cns l : Nat) : Int)))] []) := heldOprS_rec _ l (Nat.lt_succ_self _) k h0 h1
theorem markModuS_ok (l : List Modu) (k : Int) (h0 : 0 ≤ k) (hb : k + ((Modu.cns l : Nat) : Int) ≤ 4611686018427387904) : Fn Try.prog [] 71 [.hdr 0 [], .sc (.int .i64 k)] [⟨Modu.css l, true, 3, false⟩] (ret [.sc (.int .i64 (k + ((Modu.cns l : Nat) : Int)))] [⟨Modu.css (Modu.mks l k), true, 3, false⟩]) := by
  have hl : l.length ≤ 4611686018427387904 := by have := Modu.cns_ge l; omega
  generalize hF : Modu.mks l k = F
  generalize hK : k + ((Modu.cns l : Nat) : Int) = K at *
  refine fn_of Try.func71 (by kernel_rfl) ?_
  conv => whnf
  refine loop_of (A := List Modu × List Modu × Int) (eM 3 36 Modu.css) (fun x => x.2.1.length) (fun x => x.1 ++ Modu.mks x.2.1 x.2.2 = F ∧ x.2.2 + ((Modu.cns x.2.1 : Nat) : Int) = K ∧ 0 ≤ x.2.2 ∧ x.1.length + x.2.1.length ≤ 4611686018427387904) ([], l, k) rfl ⟨hF, hK, h0, by simpa using hl⟩ ?_
  clear hF hK h0 hl
  intro ⟨d, r, k⟩ ⟨h1, h2, h3, h4⟩ X ih
  dsimp only at h1 h2 h3 h4
  cases r with
  | nil =>
    have h6 : d = F := by rw [← h1]; simp [Modu.mks]
    rw [eM_eq, show Modu.css [] = [] from rfl, List.append_nil]
    subst h6
    generalize Modu.css d = D at *
    conv => whnf
    refine ifP_of (fun c1 => ?_) (fun c1 => ?_)
    · have := of_decide_eq_true c1; omega
    · conv => whnf
      exact ⟨il' (by rw [← h2]; simp [Modu.cns]), rfl⟩
  | cons a r =>
    rw [show Modu.cns (a :: r) = a.cn + Modu.cns r from by rw [Modu.cns]] at h2
    rw [List.length_cons] at h4
    have fin := ih (d ++ [(a.mk' k)], r, k + ((a.cn : Nat) : Int)) ⟨by dsimp only; rw [← h1, Modu.mks, List.append_assoc]; rfl, by dsimp only; omega, by dsimp only; omega, by dsimp only; rw [List.length_append, List.length_singleton]; omega⟩ (by dsimp only; rw [List.length_cons]; omega)
    rw [eM_eq, ← Modu.css_app] at fin
    rw [show ((Modu.css (d ++ [(a.mk' k)])).length : Nat) = (Modu.css d).length + 1 by rw [Modu.css_len, Modu.css_len, List.length_append]; rfl] at fin
    rw [eM_eq]
    have hlen : (Modu.css d).length = d.length := Modu.css_len _
    have hw2 := hwn (n := (Modu.css d).length) (by omega)
    clear ih h1
    obtain ⟨ops, jumps, cached⟩ := a
    have hcn : Modu.cn ⟨ops, jumps, cached⟩ = Opr.cns ops + jumps.length + 1 := by rw [Modu.cn]
    rw [hcn] at h2
    rw [show k + ((Modu.cn ⟨ops, jumps, cached⟩ : Nat) : Int) = k + ((Opr.cns ops : Nat) : Int) + ((jumps.length : Nat) : Int) + 1 from by rw [hcn]; omega, show Modu.mk' ⟨ops, jumps, cached⟩ k = ⟨Opr.mks ops (k), intM jumps (k + ((Opr.cns ops : Nat) : Int)), ((k + ((Opr.cns ops : Nat) : Int) + ((jumps.length : Nat) : Int)).tmod 3 == 0)⟩ from by rw [Modu.mk']] at fin
    generalize Modu.css d = D at *
    rw [show Modu.css (⟨ops, jumps, cached⟩ :: r) = Modu.cells ⟨ops, jumps, cached⟩ :: Modu.css r from Modu.css_cons ..]
    generalize Modu.css r = R at *
    conv => whnf
    refine ifP_yes lenl ?_
    conv => whnf
    repeat' (first
      | (refine optP_of (gset _) ?_; (conv => whnf))
      | (refine Fn.use (markOprS_all ops (k) (by omega) (by omega)) ?_; (conv => whnf); (first | refine ⟨trivial, ?_⟩ | refine ⟨⟨rfl, clr_of rfl⟩, ?_⟩); (conv => whnf))
      | (refine Fn.use (markIntS_ok jumps (k + ((Opr.cns ops : Nat) : Int)) (by omega) (by omega)) ?_; (conv => whnf); (first | refine ⟨trivial, ?_⟩ | refine ⟨⟨rfl, clr_of rfl⟩, ?_⟩); (conv => whnf))
      | rw [pset]
      | rw [hwk (k := k + ((Opr.cns ops : Nat) : Int) + ((jumps.length : Nat) : Int)) (by omega) (by omega)]
      | rw [hw2])
    exact fin
theorem heldModuS_ok (l : List Modu) (k : Int) (h0 : 0 ≤ k) (hb : k + ((Modu.cns l : Nat) : Int) ≤ 4611686018427387904) : Fn Try.prog [] 95 [.sh 3 (Modu.css (Modu.mks l k)), .sc (.int .i64 k)] [] (ret [.sc (.int .i64 (k + ((Modu.cns l : Nat) : Int)))] []) := by
  have hl : l.length ≤ 4611686018427387904 := by have := Modu.cns_ge l; omega
  generalize hK : k + ((Modu.cns l : Nat) : Int) = K at *
  refine fn_of Try.func95 (by kernel_rfl) ?_
  conv => whnf
  refine loop_of (A := List (List V) × List Modu × Int) (eK 3 42 (fun r k => Modu.css (Modu.mks r k))) (fun x => x.2.1.length) (fun x => x.2.2 + ((Modu.cns x.2.1 : Nat) : Int) = K ∧ 0 ≤ x.2.2 ∧ x.1.length + x.2.1.length ≤ 4611686018427387904) ([], l, k) rfl ⟨hK, h0, by simpa using hl⟩ ?_
  clear hK h0 hl
  intro ⟨D, r, k⟩ ⟨h2, h3, h4⟩ X ih
  dsimp only at h2 h3 h4
  cases r with
  | nil =>
    rw [eK_eq, show Modu.css (Modu.mks [] k) = [] from by rw [Modu.mks]; rfl, List.append_nil]
    conv => whnf
    refine ifP_of (fun c1 => ?_) (fun c1 => ?_)
    · have := of_decide_eq_true c1; omega
    · conv => whnf
      exact ⟨il' (by rw [← h2]; simp [Modu.cns]), rfl⟩
  | cons a r =>
    rw [show Modu.cns (a :: r) = a.cn + Modu.cns r from by rw [Modu.cns]] at h2
    rw [List.length_cons] at h4
    have fin := ih (D ++ [Modu.cells (a.mk' k)], r, k + ((a.cn : Nat) : Int)) ⟨by dsimp only; omega, by dsimp only; omega, by dsimp only; rw [List.length_append, List.length_singleton]; omega⟩ (by dsimp only; rw [List.length_cons]; omega)
    rw [eK_eq, List.append_assoc, List.length_append, List.length_singleton] at fin
    rw [eK_eq, show Modu.css (Modu.mks (a :: r) k) = Modu.cells (a.mk' k) :: Modu.css (Modu.mks r (k + ((a.cn : Nat) : Int))) from by rw [Modu.mks, Modu.css_cons]]
    have fin : X ⟨[(0, .sh 3 (D ++ Modu.cells (a.mk' k) :: Modu.css (Modu.mks r (k + ((a.cn : Nat) : Int))))), (1, .sc (.int .i64 (k + ((a.cn : Nat) : Int)))), (5, .sc (.int .i64 ((D.length + 1 : Nat) : Int)))], [], 0, 42, 0⟩ := fin
    have hw2 := hwn (n := D.length) (by omega)
    clear ih
    obtain ⟨ops, jumps, cached⟩ := a
    have hcn : Modu.cn ⟨ops, jumps, cached⟩ = Opr.cns ops + jumps.length + 1 := by rw [Modu.cn]
    rw [hcn] at h2
    rw [show k + ((Modu.cn ⟨ops, jumps, cached⟩ : Nat) : Int) = k + ((Opr.cns ops : Nat) : Int) + ((jumps.length : Nat) : Int) + 1 from by rw [hcn]; omega, show Modu.mk' ⟨ops, jumps, cached⟩ k = ⟨Opr.mks ops (k), intM jumps (k + ((Opr.cns ops : Nat) : Int)), ((k + ((Opr.cns ops : Nat) : Int) + ((jumps.length : Nat) : Int)).tmod 3 == 0)⟩ from by rw [Modu.mk']] at fin
    rw [show k + ((Modu.cn ⟨ops, jumps, cached⟩ : Nat) : Int) = k + ((Opr.cns ops : Nat) : Int) + ((jumps.length : Nat) : Int) + 1 from by rw [hcn]; omega, show Modu.mk' ⟨ops, jumps, cached⟩ k = ⟨Opr.mks ops (k), intM jumps (k + ((Opr.cns ops : Nat) : Int)), ((k + ((Opr.cns ops : Nat) : Int) + ((jumps.length : Nat) : Int)).tmod 3 == 0)⟩ from by rw [Modu.mk']]
    generalize Modu.css (Modu.mks r (k + ((Opr.cns ops : Nat) : Int) + ((jumps.length : Nat) : Int) + 1)) = R at *
    conv => whnf
    refine ifP_yes lenl ?_
    conv => whnf
    repeat' (first
      | (refine optP_of (gset _) ?_; (conv => whnf))
      | (refine Fn.use (heldOprS_all ops (k) (by omega) (by omega)) ?_; (conv => whnf); (first | refine ⟨trivial, ?_⟩ | refine ⟨⟨rfl, clr_of rfl⟩, ?_⟩); (conv => whnf))
      | (refine Fn.use (heldIntS_ok jumps (k + ((Opr.cns ops : Nat) : Int)) (by omega) (by omega)) ?_; (conv => whnf); (first | refine ⟨trivial, ?_⟩ | refine ⟨⟨rfl, clr_of rfl⟩, ?_⟩); (conv => whnf))
      | rw [hwk (k := k + ((Opr.cns ops : Nat) : Int) + ((jumps.length : Nat) : Int)) (by omega) (by omega)]
      | rw [hw2]
      | (refine ifP_no (neI _) ?_; (conv => whnf))
      | (refine ifP_no (neB _) ?_; (conv => whnf))
      | (refine ifP_no (neS _) ?_; (conv => whnf))
      | (refine ifP_no (decide_eq_false (by omega)) ?_; (conv => whnf)))
    exact fin
end Ev
