/- Contracts of functions of the given program, shown on the evaluator; each states its own conditions. -/
import Derived.Test.YtfhpkcdkinnnmaaDoorS
open Go Ev
open Go.Proofs
set_option maxRecDepth 100000
set_option maxHeartbeats 4000000
set_option linter.unusedVariables false
namespace Ev
def strC (l : List ByteArray) : List (List V) := l.map fun b => [.sc (.string b)]
def intC (l : List Int) : List (List V) := l.map fun n => [.sc (.int .i64 n)]
def byteC (l : List Int) : List (List V) := l.map fun n => [.sc (.int .u8 n)]
theorem byteC_len (l : List Int) : (byteC l).length = l.length := List.length_map ..
theorem byteC_get {xs : List Int} {i : Nat} (h : i < xs.length) : (byteC xs)[i]? = some [.sc (.int .u8 xs[i])] := get_map h
def strS : List ByteArray → Nat
  | [] => 0
  | b :: l => b.size + strS l
def strW (l : List ByteArray) : Nat := l.length + strS l
def strO (l : List ByteArray) : Prop := l.length ≤ 9223372036854775807 ∧ ∀ b ∈ l, b.size ≤ 9223372036854775807
theorem strS_drop {l : List ByteArray} {i : Nat} (h : i < l.length) : strS (l.drop i) = l[i].size + strS (l.drop (i + 1)) := by rw [List.drop_eq_getElem_cons h, strS]
theorem strC_len (l : List ByteArray) : (strC l).length = l.length := List.length_map ..
theorem strC_get {xs : List ByteArray} {i : Nat} (h : i < xs.length) : (strC xs)[i]? = some [.sc (.string xs[i])] := get_map h
theorem intC_len (l : List Int) : (intC l).length = l.length := List.length_map ..
theorem intC_get {xs : List Int} {i : Nat} (h : i < xs.length) : (intC xs)[i]? = some [.sc (.int .i64 xs[i])] := get_map h
mutual
structure Val where
  n : Int
  text : ByteArray
  items : List Item
  unk : List Int
structure Item where
  num : Int
  vals : List Val
end
structure Msg where
  items : List Item
  unk : List Int
def Val.sub (a : Val) : Msg := ⟨a.items, a.unk⟩
mutual
def Val.cs : Val → List V
  | ⟨n, text, items, unk⟩ => [.sc (.int .i64 n), .sc (.string text), .sl 2 (Item.css items), .sl 1 (byteC unk)]
def Item.cs : Item → List V
  | ⟨num, vals⟩ => [.sc (.int .i64 num), .sl 4 (Val.css vals)]
def Val.css : List Val → List (List V)
  | [] => []
  | a :: l => a.cs :: Val.css l
def Item.css : List Item → List (List V)
  | [] => []
  | a :: l => a.cs :: Item.css l
end
mutual
def Val.w : Val → Nat
  | ⟨n, text, items, unk⟩ => text.size + (items.length + Item.ss items + unk.length)
def Item.w : Item → Nat
  | ⟨num, vals⟩ => vals.length + Val.ss vals
def Val.ss : List Val → Nat
  | [] => 0
  | a :: l => a.w + Val.ss l
def Item.ss : List Item → Nat
  | [] => 0
  | a :: l => a.w + Item.ss l
end
def Val.ws (l : List Val) : Nat := l.length + Val.ss l
def Item.ws (l : List Item) : Nat := l.length + Item.ss l
mutual
def Val.ok : Val → Prop
  | ⟨n, text, items, unk⟩ => text.size ≤ 9223372036854775807 ∧ ((items.length ≤ 9223372036854775807 ∧ Item.okl items) ∧ (unk.length ≤ 9223372036854775807 ∧ ((-9223372036854775808 ≤ n ∧ n < 9223372036854775808) ∧ ∀ b ∈ unk, 0 ≤ b ∧ b < 256)))
def Item.ok : Item → Prop
  | ⟨num, vals⟩ => vals.length ≤ 9223372036854775807 ∧ Val.okl vals
def Val.okl : List Val → Prop
  | [] => True
  | a :: l => a.ok ∧ Val.okl l
def Item.okl : List Item → Prop
  | [] => True
  | a :: l => a.ok ∧ Item.okl l
end
def Val.oks (l : List Val) : Prop := l.length ≤ 9223372036854775807 ∧ Val.okl l
def Item.oks (l : List Item) : Prop := l.length ≤ 9223372036854775807 ∧ Item.okl l
def Msg.cs : Msg → List V
  | ⟨items, unk⟩ => [.sl 2 (Item.css items), .sl 1 (byteC unk)]
def Msg.w : Msg → Nat
  | ⟨items, unk⟩ => Item.ws items + unk.length
def Msg.ok : Msg → Prop
  | ⟨items, unk⟩ => Item.oks items ∧ (unk.length ≤ 9223372036854775807 ∧ ∀ b ∈ unk, 0 ≤ b ∧ b < 256)
def Val.cells (a : Val) : List V := [.sc (.int .i64 a.n), .sc (.string a.text), .sl 2 (Item.css a.items), .sl 1 (byteC a.unk)]
def Val.acells (a : Val) : List V := [.sc (.int .i64 a.n), .sc (.string a.text), .sh 2 (Item.css a.items), .sh 1 (byteC a.unk)]
def Val.ocells (a : Val) : List V := [.sc (.int .i64 a.n), .sc (.string a.text), .own true 2 (Item.css a.items), .own true 1 (byteC a.unk)]
theorem Val.cs_eq (a : Val) : a.cs = a.cells := by cases a; rfl
theorem Val.css_nil : Val.css [] = [] := by rw [Val.css]
theorem Val.css_cons (a : Val) (l : List Val) : Val.css (a :: l) = a.cells :: Val.css l := by rw [Val.css, Val.cs_eq]
theorem Val.css_len : ∀ l : List Val, (Val.css l).length = l.length
  | [] => by rw [Val.css]; rfl
  | a :: l => by rw [Val.css, List.length_cons, List.length_cons, Val.css_len l]
theorem Val.css_get : ∀ {l : List Val} {i : Nat} (h : i < l.length), (Val.css l)[i]? = some (Val.cells l[i])
  | a :: l, 0, h => by rw [Val.css, List.getElem?_cons_zero, Val.cs_eq]; rfl
  | a :: l, i + 1, h => by rw [Val.css, List.getElem?_cons_succ]; exact Val.css_get (by simpa using h)
theorem Val.okl_mem : ∀ {l : List Val}, Val.okl l → ∀ a ∈ l, a.ok
  | [], _ => fun b hb => nomatch hb
  | a :: l, h => fun b hb => by
    rw [Val.okl] at h
    rcases List.mem_cons.1 hb with rfl | hb
    · exact h.1
    · exact Val.okl_mem h.2 b hb
theorem Val.ss_nil : Val.ss [] = 0 := by rw [Val.ss]
theorem Val.ss_drop {l : List Val} {i : Nat} (h : i < l.length) : Val.ss (l.drop i) = l[i].w + Val.ss (l.drop (i + 1)) := by rw [List.drop_eq_getElem_cons h, Val.ss]
theorem Val.ss_mem : ∀ {l : List Val} {a : Val}, a ∈ l → a.w ≤ Val.ss l
  | b :: l, a, h => by
    rw [Val.ss]
    rcases List.mem_cons.1 h with rfl | h
    · omega
    · have := Val.ss_mem h; omega
def Item.cells (a : Item) : List V := [.sc (.int .i64 a.num), .sl 4 (Val.css a.vals)]
def Item.acells (a : Item) : List V := [.sc (.int .i64 a.num), .sh 4 (Val.css a.vals)]
def Item.ocells (a : Item) : List V := [.sc (.int .i64 a.num), .own true 4 (Val.css a.vals)]
theorem Item.cs_eq (a : Item) : a.cs = a.cells := by cases a; rfl
theorem Item.css_nil : Item.css [] = [] := by rw [Item.css]
theorem Item.css_cons (a : Item) (l : List Item) : Item.css (a :: l) = a.cells :: Item.css l := by rw [Item.css, Item.cs_eq]
theorem Item.css_len : ∀ l : List Item, (Item.css l).length = l.length
  | [] => by rw [Item.css]; rfl
  | a :: l => by rw [Item.css, List.length_cons, List.length_cons, Item.css_len l]
theorem Item.css_get : ∀ {l : List Item} {i : Nat} (h : i < l.length), (Item.css l)[i]? = some (Item.cells l[i])
  | a :: l, 0, h => by rw [Item.css, List.getElem?_cons_zero, Item.cs_eq]; rfl
  | a :: l, i + 1, h => by rw [Item.css, List.getElem?_cons_succ]; exact Item.css_get (by simpa using h)
theorem Item.okl_mem : ∀ {l : List Item}, Item.okl l → ∀ a ∈ l, a.ok
  | [], _ => fun b hb => nomatch hb
  | a :: l, h => fun b hb => by
    rw [Item.okl] at h
    rcases List.mem_cons.1 hb with rfl | hb
    · exact h.1
    · exact Item.okl_mem h.2 b hb
theorem Item.ss_nil : Item.ss [] = 0 := by rw [Item.ss]
theorem Item.ss_drop {l : List Item} {i : Nat} (h : i < l.length) : Item.ss (l.drop i) = l[i].w + Item.ss (l.drop (i + 1)) := by rw [List.drop_eq_getElem_cons h, Item.ss]
theorem Item.ss_mem : ∀ {l : List Item} {a : Item}, a ∈ l → a.w ≤ Item.ss l
  | b :: l, a, h => by
    rw [Item.ss]
    rcases List.mem_cons.1 h with rfl | h
    · omega
    · have := Item.ss_mem h; omega
def Msg.cells (a : Msg) : List V := [.sl 2 (Item.css a.items), .sl 1 (byteC a.unk)]
def Msg.acells (a : Msg) : List V := [.sh 2 (Item.css a.items), .sh 1 (byteC a.unk)]
def Msg.ocells (a : Msg) : List V := [.own true 2 (Item.css a.items), .own true 1 (byteC a.unk)]
theorem Msg.cs_eq (a : Msg) : a.cs = a.cells := by cases a; rfl
theorem szByteS_ok (xs : List Int) (l : Int) (hb : xs.length ≤ 9223372036854775807) (h0 : 0 ≤ l) (h1 : l ≤ 1048576) : Fn Tryd.prog [] 45 [.sh 1 (byteC xs), .sc (.int .i64 l)] [] (ret [.sc (.int .i64 (dec l xs.length))] []) := by
  refine fn_of Tryd.func45 (by kernel_rfl) ?_
  have hlm := byteC_len xs
  conv => whnf
  rw [hlm]
  have e : IntKind.i64.wrap (l - ↑xs.length) = l - ↑xs.length := wrap64 (by omega) (by omega)
  rw [e]
  refine ifP_of (fun h => ?_) (fun h => ?_)
  · have h := of_decide_eq_true h
    conv => whnf
    exact ⟨congrArg (fun x : Int => [V.sc (.int .i64 x)]) (show (-1 : Int) = _ from (dec_neg (by omega)).symm), rfl⟩
  · have h := of_decide_eq_false h
    conv => whnf
    exact ⟨congrArg (fun x : Int => [V.sc (.int .i64 x)]) (show l - (xs.length : Int) = _ from (dec_pos (by omega)).symm), rfl⟩
theorem szValS_ok (xs : List Val) (l : Int) (hb : xs.length ≤ 9223372036854775807) (h0 : 0 ≤ l) (h1 : l ≤ 1048576) (H : ∀ x ∈ xs, ∀ l, 0 ≤ l → l ≤ 1048576 → Fn Tryd.prog [] 5 [.agg x.acells, .sc (.int .i64 l)] [] (ret [.sc (.int .i64 (dec l x.w))] [])) : Fn Tryd.prog [] 97 [.sh 4 (Val.css xs), .sc (.int .i64 l)] [] (ret [.sc (.int .i64 (dec l (Val.ws xs)))] []) := by
  refine fn_of Tryd.func97 (by kernel_rfl) ?_
  have hlm := Val.css_len xs
  conv => whnf
  rw [hlm]
  have e : IntKind.i64.wrap (l - ↑xs.length) = l - ↑xs.length := wrap64 (by omega) (by omega)
  rw [e]
  refine ifP_of (fun h => ?_) (fun h => ?_)
  · have h := of_decide_eq_true h
    conv => whnf
    exact ⟨congrArg (fun x : Int => [V.sc (.int .i64 x)]) (show (-1 : Int) = _ from (dec_neg (by unfold Val.ws; omega)).symm), rfl⟩
  · have h := of_decide_eq_false h
    conv => whnf
    refine loop_of (A := Nat × Int) (fun x => ⟨[(0, .sh 4 (Val.css xs)), (1, .sc (.int .i64 x.2)), (5, .sc (.int .i64 x.1))], [], 0, 27, 0⟩) (fun x => xs.length - x.1) (fun x => (x.1 ≤ xs.length ∧ 0 ≤ x.2 ∧ x.2 ≤ 1048576) ∧ dec x.2 (Val.ss (xs.drop x.1)) = dec l (Val.ws xs)) (0, l - xs.length) rfl ⟨⟨Nat.zero_le _, by dsimp only; omega, by dsimp only; omega⟩, ?_⟩ ?_
    · dsimp only
      rw [List.drop_zero, dec_dec (l := l) (c := Val.ws xs) (by omega) rfl]
    intro ⟨i, m⟩ ⟨⟨hi, hm0, hm1⟩, hout⟩ X ih
    dsimp only at hi hm0 hm1 hout
    conv => whnf
    refine ifP_of (fun h2 => ?_) (fun h2 => ?_)
    · have hi1 : i < xs.length := by rw [hlm] at h2; have := of_decide_eq_true h2; omega
      have hss := Val.ss_drop hi1
      conv => whnf
      try (refine chkP_of (by simp; done) ?_; conv => whnf)
      refine optP_of (Val.css_get hi1) ?_
      conv => whnf
      refine Fn.use (H xs[i] (List.getElem_mem hi1) m hm0 hm1) ?_
      conv => whnf
      refine ⟨trivial, ?_⟩
      conv => whnf
      generalize hd : dec m xs[i].w = d
      refine ifP_of (fun h3 => ?_) (fun h3 => ?_)
      · have h3 := dec_lt hd (of_decide_eq_true h3) hm0
        conv => whnf
        exact ⟨congrArg (fun x : Int => [V.sc (.int .i64 x)]) (show (-1 : Int) = dec l (Val.ws xs) by rw [← hout, dec_neg (by omega)]), rfl⟩
      · obtain ⟨h3, h4⟩ := dec_ge hd (of_decide_eq_false h3)
        conv => whnf
        have hw : IntKind.i64.wrap ((i : Int) + 1) = ((i + 1 : Nat) : Int) := by rw [wrap64 (by omega) (by omega)]; omega
        have h5 := ih (i+1, d) ⟨⟨by dsimp only; omega, by dsimp only; omega, by dsimp only; omega⟩, by dsimp only; rw [h4, dec_dec h3 hss, hout]⟩ (by dsimp only; omega)
        dsimp only at h5
        rw [← hw] at h5
        exact h5
    · have hi1 : ¬ i < xs.length := by rw [hlm] at h2; have := of_decide_eq_false h2; omega
      conv => whnf
      exact ⟨congrArg (fun x : Int => [V.sc (.int .i64 x)]) (show m = dec l (Val.ws xs) by rw [← hout, List.drop_eq_nil_of_le (by omega), show Val.ss [] = 0 from rfl, dec_zero hm0]), rfl⟩
theorem szItemS_ok (xs : List Item) (l : Int) (hb : xs.length ≤ 9223372036854775807) (h0 : 0 ≤ l) (h1 : l ≤ 1048576) (H : ∀ x ∈ xs, ∀ l, 0 ≤ l → l ≤ 1048576 → Fn Tryd.prog [] 79 [.agg x.acells, .sc (.int .i64 l)] [] (ret [.sc (.int .i64 (dec l x.w))] [])) : Fn Tryd.prog [] 44 [.sh 2 (Item.css xs), .sc (.int .i64 l)] [] (ret [.sc (.int .i64 (dec l (Item.ws xs)))] []) := by
  refine fn_of Tryd.func44 (by kernel_rfl) ?_
  have hlm := Item.css_len xs
  conv => whnf
  rw [hlm]
  have e : IntKind.i64.wrap (l - ↑xs.length) = l - ↑xs.length := wrap64 (by omega) (by omega)
  rw [e]
  refine ifP_of (fun h => ?_) (fun h => ?_)
  · have h := of_decide_eq_true h
    conv => whnf
    exact ⟨congrArg (fun x : Int => [V.sc (.int .i64 x)]) (show (-1 : Int) = _ from (dec_neg (by unfold Item.ws; omega)).symm), rfl⟩
  · have h := of_decide_eq_false h
    conv => whnf
    refine loop_of (A := Nat × Int) (fun x => ⟨[(0, .sh 2 (Item.css xs)), (1, .sc (.int .i64 x.2)), (5, .sc (.int .i64 x.1))], [], 0, 27, 0⟩) (fun x => xs.length - x.1) (fun x => (x.1 ≤ xs.length ∧ 0 ≤ x.2 ∧ x.2 ≤ 1048576) ∧ dec x.2 (Item.ss (xs.drop x.1)) = dec l (Item.ws xs)) (0, l - xs.length) rfl ⟨⟨Nat.zero_le _, by dsimp only; omega, by dsimp only; omega⟩, ?_⟩ ?_
    · dsimp only
      rw [List.drop_zero, dec_dec (l := l) (c := Item.ws xs) (by omega) rfl]
    intro ⟨i, m⟩ ⟨⟨hi, hm0, hm1⟩, hout⟩ X ih
    dsimp only at hi hm0 hm1 hout
    conv => whnf
    refine ifP_of (fun h2 => ?_) (fun h2 => ?_)
    · have hi1 : i < xs.length := by rw [hlm] at h2; have := of_decide_eq_true h2; omega
      have hss := Item.ss_drop hi1
      conv => whnf
      try (refine chkP_of (by simp; done) ?_; conv => whnf)
      refine optP_of (Item.css_get hi1) ?_
      conv => whnf
      refine Fn.use (H xs[i] (List.getElem_mem hi1) m hm0 hm1) ?_
      conv => whnf
      refine ⟨trivial, ?_⟩
      conv => whnf
      generalize hd : dec m xs[i].w = d
      refine ifP_of (fun h3 => ?_) (fun h3 => ?_)
      · have h3 := dec_lt hd (of_decide_eq_true h3) hm0
        conv => whnf
        exact ⟨congrArg (fun x : Int => [V.sc (.int .i64 x)]) (show (-1 : Int) = dec l (Item.ws xs) by rw [← hout, dec_neg (by omega)]), rfl⟩
      · obtain ⟨h3, h4⟩ := dec_ge hd (of_decide_eq_false h3)
        conv => whnf
        have hw : IntKind.i64.wrap ((i : Int) + 1) = ((i + 1 : Nat) : Int) := by rw [wrap64 (by omega) (by omega)]; omega
        have h5 := ih (i+1, d) ⟨⟨by dsimp only; omega, by dsimp only; omega, by dsimp only; omega⟩, by dsimp only; rw [h4, dec_dec h3 hss, hout]⟩ (by dsimp only; omega)
        dsimp only at h5
        rw [← hw] at h5
        exact h5
    · have hi1 : ¬ i < xs.length := by rw [hlm] at h2; have := of_decide_eq_false h2; omega
      conv => whnf
      exact ⟨congrArg (fun x : Int => [V.sc (.int .i64 x)]) (show m = dec l (Item.ws xs) by rw [← hout, List.drop_eq_nil_of_le (by omega), show Item.ss [] = 0 from rfl, dec_zero hm0]), rfl⟩
theorem szItem_ok (a : Item) (l : Int) (H_vals : ∀ l, 0 ≤ l → l ≤ 1048576 → Fn Tryd.prog [] 97 [.sh 4 (Val.css a.vals), .sc (.int .i64 l)] [] (ret [.sc (.int .i64 (dec l (Val.ws a.vals)))] [])) (h0 : 0 ≤ l) (h1 : l ≤ 1048576) : Fn Tryd.prog [] 79 [.agg a.acells, .sc (.int .i64 l)] [] (ret [.sc (.int .i64 (dec l a.w))] []) := by
  obtain ⟨num, vals⟩ := a
  refine fn_of Tryd.func79 (by kernel_rfl) ?_
  conv => whnf
  refine Fn.use (H_vals l (by omega) (by omega)) ?_
  conv => whnf
  refine ⟨trivial, ?_⟩
  conv => whnf
  generalize hd1 : dec l (Val.ws vals) = d1
  refine ifP_of (fun h => ?_) (fun h => ?_)
  · have h := dec_lt hd1 (of_decide_eq_true h) (by omega)
    conv => whnf
    exact ⟨congrArg (fun x : Int => [V.sc (.int .i64 x)]) (show (-1 : Int) = dec l (Val.ws vals) from (dec_neg (by omega)).symm), rfl⟩
  · have g1 := dec_ge hd1 (of_decide_eq_false h)
    conv => whnf
    exact ⟨congrArg (fun x : Int => [V.sc (.int .i64 x)]) (show d1 = dec l (Val.ws vals) by rw [dec_pos (by omega)]; omega), rfl⟩
theorem szMsg_ok (a : Msg) (l : Int) (H_items : ∀ l, 0 ≤ l → l ≤ 1048576 → Fn Tryd.prog [] 44 [.sh 2 (Item.css a.items), .sc (.int .i64 l)] [] (ret [.sc (.int .i64 (dec l (Item.ws a.items)))] [])) (H_unk : ∀ l, 0 ≤ l → l ≤ 1048576 → Fn Tryd.prog [] 45 [.sh 1 (byteC a.unk), .sc (.int .i64 l)] [] (ret [.sc (.int .i64 (dec l (a.unk.length)))] [])) (h0 : 0 ≤ l) (h1 : l ≤ 1048576) : Fn Tryd.prog [] 18 [.agg a.acells, .sc (.int .i64 l)] [] (ret [.sc (.int .i64 (dec l a.w))] []) := by
  obtain ⟨items, unk⟩ := a
  refine fn_of Tryd.func18 (by kernel_rfl) ?_
  conv => whnf
  refine Fn.use (H_items l (by omega) (by omega)) ?_
  conv => whnf
  refine ⟨trivial, ?_⟩
  conv => whnf
  generalize hd1 : dec l (Item.ws items) = d1
  refine ifP_of (fun h => ?_) (fun h => ?_)
  · have h := dec_lt hd1 (of_decide_eq_true h) (by omega)
    conv => whnf
    exact ⟨congrArg (fun x : Int => [V.sc (.int .i64 x)]) (show (-1 : Int) = dec l (Item.ws items + unk.length) from (dec_neg (by omega)).symm), rfl⟩
  · have g1 := dec_ge hd1 (of_decide_eq_false h)
    conv => whnf
    refine Fn.use (H_unk d1 (by omega) (by omega)) ?_
    conv => whnf
    refine ⟨trivial, ?_⟩
    conv => whnf
    generalize hd2 : dec d1 (unk.length) = d2
    refine ifP_of (fun h => ?_) (fun h => ?_)
    · have h := dec_lt hd2 (of_decide_eq_true h) (by omega)
      conv => whnf
      exact ⟨congrArg (fun x : Int => [V.sc (.int .i64 x)]) (show (-1 : Int) = dec l (Item.ws items + unk.length) from (dec_neg (by omega)).symm), rfl⟩
    · have g2 := dec_ge hd2 (of_decide_eq_false h)
      conv => whnf
      exact ⟨congrArg (fun x : Int => [V.sc (.int .i64 x)]) (show d2 = dec l (Item.ws items + unk.length) by rw [dec_pos (by omega)]; omega), rfl⟩
theorem szVal_ok (a : Val) (l : Int) (hb_text : a.text.size ≤ 9223372036854775807) (H_sub : ∀ l, 0 ≤ l → l ≤ 1048576 → Fn Tryd.prog [] 18 [.agg a.sub.acells, .sc (.int .i64 l)] [] (ret [.sc (.int .i64 (dec l a.sub.w))] [])) (h0 : 0 ≤ l) (h1 : l ≤ 1048576) : Fn Tryd.prog [] 5 [.agg a.acells, .sc (.int .i64 l)] [] (ret [.sc (.int .i64 (dec l a.w))] []) := by
  obtain ⟨n, text, items, unk⟩ := a
  refine fn_of Tryd.func5 (by kernel_rfl) ?_
  have hb_text : text.size ≤ 9223372036854775807 := hb_text
  have hw : Val.w ⟨n, text, items, unk⟩ = text.size + Msg.w ⟨items, unk⟩ := by rw [Val.w, Msg.w, Item.ws]
  rw [hw]
  conv => whnf
  generalize hd1 : IntKind.i64.wrap (l - ↑text.size) = d1
  have e1 : d1 = l - ↑text.size := hd1.symm.trans (wrap64 (by omega) (by omega))
  refine ifP_of (fun h => ?_) (fun h => ?_)
  · have h : d1 < 0 := of_decide_eq_true h
    conv => whnf
    exact ⟨congrArg (fun x : Int => [V.sc (.int .i64 x)]) (show (-1 : Int) = dec l (text.size + Msg.w ⟨items, unk⟩) from (dec_neg (by omega)).symm), rfl⟩
  · have g1 : ¬ d1 < 0 := of_decide_eq_false h
    conv => whnf
    refine Fn.use (H_sub d1 (by omega) (by omega)) ?_
    conv => whnf
    refine ⟨trivial, ?_⟩
    conv => whnf
    generalize hd2 : dec d1 (Msg.w (Val.sub ⟨n, text, items, unk⟩)) = d2
    have hd2 : dec d1 (Msg.w ⟨items, unk⟩) = d2 := hd2
    refine ifP_of (fun h => ?_) (fun h => ?_)
    · have h := dec_lt hd2 (of_decide_eq_true h) (by omega)
      conv => whnf
      exact ⟨congrArg (fun x : Int => [V.sc (.int .i64 x)]) (show (-1 : Int) = dec l (text.size + Msg.w ⟨items, unk⟩) from (dec_neg (by omega)).symm), rfl⟩
    · have g2 := dec_ge hd2 (of_decide_eq_false h)
      conv => whnf
      exact ⟨congrArg (fun x : Int => [V.sc (.int .i64 x)]) (show d2 = dec l (text.size + Msg.w ⟨items, unk⟩) by rw [dec_pos (by omega)]; omega), rfl⟩
theorem szMsg_rec : ∀ (n : Nat) (a : Msg), sizeOf a < n → a.ok → ∀ l, 0 ≤ l → l ≤ 1048576 → Fn Tryd.prog [] 18 [.agg a.acells, .sc (.int .i64 l)] [] (ret [.sc (.int .i64 (dec l a.w))] []) := by
  intro n
  induction n with
  | zero => intro a hn; omega
  | succ n ih =>
    intro a hn ha l h0 h1
    obtain ⟨items, unk⟩ := a
    have ha : Item.oks items ∧ (unk.length ≤ 9223372036854775807 ∧ ∀ b ∈ unk, 0 ≤ b ∧ b < 256) := ha
    have hs : sizeOf items < n := by have := Msg.mk.sizeOf_spec items unk; omega
    refine szMsg_ok _ l (fun l h0 h1 => szItemS_ok items l ha.1.1 h0 h1 (fun x hx l h0 h1 => ?_)) (fun l h0 h1 => szByteS_ok unk l ha.2.1 h0 h1) h0 h1
    have ok1 := Item.okl_mem ha.1.2 x hx
    have s1 := List.sizeOf_lt_of_mem hx
    obtain ⟨num, vals⟩ := x
    rw [Item.ok] at ok1
    refine szItem_ok _ l (fun l h0 h1 => szValS_ok vals l ok1.1 h0 h1 (fun y hy l h0 h1 => ?_)) h0 h1
    have ok2 := Val.okl_mem ok1.2 y hy
    have s2 := List.sizeOf_lt_of_mem hy
    obtain ⟨m, text, items2, unk2⟩ := y
    rw [Val.ok] at ok2
    refine szVal_ok _ l ok2.1 (fun l h0 h1 => ih _ ?_ (show Msg.ok ⟨items2, unk2⟩ from ⟨ok2.2.1, ⟨ok2.2.2.1, ok2.2.2.2.2⟩⟩) l h0 h1) h0 h1
    have e1 := Item.mk.sizeOf_spec num vals
    have e2 := Val.mk.sizeOf_spec m text items2 unk2
    have e3 := Msg.mk.sizeOf_spec items2 unk2
    show sizeOf (Msg.mk items2 unk2) < n
    omega
theorem szMsg_all (a : Msg) (ha : a.ok) : ∀ l, 0 ≤ l → l ≤ 1048576 → Fn Tryd.prog [] 18 [.agg a.acells, .sc (.int .i64 l)] [] (ret [.sc (.int .i64 (dec l a.w))] []) := szMsg_rec _ a (Nat.lt_succ_self _) ha
theorem szVal_all (a : Val) (ha : a.ok) (l : Int) (h0 : 0 ≤ l) (h1 : l ≤ 1048576) : Fn Tryd.prog [] 5 [.agg a.acells, .sc (.int .i64 l)] [] (ret [.sc (.int .i64 (dec l a.w))] []) := by
  obtain ⟨n, text, items, unk⟩ := a
  rw [Val.ok] at ha
  exact szVal_ok _ l ha.1 (fun l h0 h1 => szMsg_all _ (show Msg.ok ⟨items, unk⟩ from ⟨ha.2.1, ⟨ha.2.2.1, ha.2.2.2.2⟩⟩) l h0 h1) h0 h1
end Ev
open Go Ev
open Go.Proofs
set_option maxRecDepth 100000
set_option maxHeartbeats 4000000
set_option linter.unusedVariables false
namespace Ev
theorem toByteS_ok (xs : List Int) (hb : xs.length ≤ 1048576)  : Fn Tryd.prog [] 50 [.sh 1 (byteC xs)] [] (ret [.own true 1 (byteC xs)] []) := by
  refine fn_of Tryd.func50 (by kernel_rfl) ?_
  have hlm := byteC_len xs
  conv => whnf
  refine chkP_of ?_ ?_
  · rw [hlm]; simp; omega
  conv => whnf
  refine loop_of (A := Nat) (fun i => ⟨[(0, .sh 1 (byteC xs)), (3, .hdr 0 []), (4, .sc (.int .i64 i))], [(0, some ⟨fillL (byteC xs) [.sc (.int .u8 0)] i, true, 1, false⟩)], 1, 22, 0⟩) (fun i => xs.length - i) (fun i => i ≤ xs.length) 0 rfl (Nat.zero_le _) ?_
  intro i hi X ih
  conv => whnf
  refine ifP_of (fun h1 => ?_) (fun h1 => ?_)
  · have hi1 : i < xs.length := by rw [hlm] at h1; have := of_decide_eq_true h1; omega
    have hg := byteC_get hi1
    conv => whnf
    try (refine chkP_of (by simp; done) ?_; conv => whnf)
    refine optP_of hg ?_
    conv => whnf
    try (refine chkP_of (by simp; done) ?_; conv => whnf)
    refine optP_of (fill_get (by rw [hlm]; exact hi1)) ?_
    conv => whnf
    refine optP_of (fill_get (by rw [hlm]; exact hi1)) ?_
    conv => whnf
    have hw : IntKind.i64.wrap ((i : Int) + 1) = ((i + 1 : Nat) : Int) := by rw [wrap64 (by omega) (by omega)]; omega
    have h2 := ih (i+1) (by omega) (by omega)
    rw [← fill_set hg, ← hw] at h2
    exact h2
  · have hi1 : ¬ i < xs.length := by rw [hlm] at h1; have := of_decide_eq_false h1; omega
    conv => whnf
    exact ⟨congrArg (fun es => [V.own true 1 es]) (fill_end (by rw [hlm]; omega)), rfl⟩
theorem toValS_ok (xs : List Val) (hb : xs.length ≤ 1048576) (H : ∀ x ∈ xs, Fn Tryd.prog [] 7 [.agg x.acells] [] (ret [.agg x.ocells] [])) : Fn Tryd.prog [] 98 [.sh 4 (Val.css xs)] [] (ret [.own true 4 (Val.css xs)] []) := by
  refine fn_of Tryd.func98 (by kernel_rfl) ?_
  have hlm := Val.css_len xs
  conv => whnf
  refine chkP_of ?_ ?_
  · rw [hlm]; simp; omega
  conv => whnf
  refine loop_of (A := Nat) (fun i => ⟨[(0, .sh 4 (Val.css xs)), (3, .hdr 0 []), (4, .sc (.int .i64 i))], [(0, some ⟨fillL (Val.css xs) [.sc (.int .i64 0), .sc (.string .empty), .sl 2 [], .sl 1 []] i, true, 4, false⟩)], 1, 23, 0⟩) (fun i => xs.length - i) (fun i => i ≤ xs.length) 0 rfl (Nat.zero_le _) ?_
  intro i hi X ih
  conv => whnf
  refine ifP_of (fun h1 => ?_) (fun h1 => ?_)
  · have hi1 : i < xs.length := by rw [hlm] at h1; have := of_decide_eq_true h1; omega
    have hg := Val.css_get hi1
    conv => whnf
    try (refine chkP_of (by simp; done) ?_; conv => whnf)
    refine optP_of hg ?_
    conv => whnf
    refine Fn.use (H xs[i] (List.getElem_mem hi1)) ?_
    conv => whnf
    refine ⟨trivial, ?_⟩
    conv => whnf
    try (refine chkP_of (by simp; done) ?_; conv => whnf)
    refine optP_of (fill_get (by rw [hlm]; exact hi1)) ?_
    conv => whnf
    refine optP_of (fill_get (by rw [hlm]; exact hi1)) ?_
    conv => whnf
    have hw : IntKind.i64.wrap ((i : Int) + 1) = ((i + 1 : Nat) : Int) := by rw [wrap64 (by omega) (by omega)]; omega
    have h2 := ih (i+1) (by omega) (by omega)
    rw [← fill_set hg, ← hw] at h2
    exact h2
  · have hi1 : ¬ i < xs.length := by rw [hlm] at h1; have := of_decide_eq_false h1; omega
    conv => whnf
    exact ⟨congrArg (fun es => [V.own true 4 es]) (fill_end (by rw [hlm]; omega)), rfl⟩
theorem toItemS_ok (xs : List Item) (hb : xs.length ≤ 1048576) (H : ∀ x ∈ xs, Fn Tryd.prog [] 81 [.agg x.acells] [] (ret [.agg x.ocells] [])) : Fn Tryd.prog [] 49 [.sh 2 (Item.css xs)] [] (ret [.own true 2 (Item.css xs)] []) := by
  refine fn_of Tryd.func49 (by kernel_rfl) ?_
  have hlm := Item.css_len xs
  conv => whnf
  refine chkP_of ?_ ?_
  · rw [hlm]; simp; omega
  conv => whnf
  refine loop_of (A := Nat) (fun i => ⟨[(0, .sh 2 (Item.css xs)), (3, .hdr 0 []), (4, .sc (.int .i64 i))], [(0, some ⟨fillL (Item.css xs) [.sc (.int .i64 0), .sl 4 []] i, true, 2, false⟩)], 1, 23, 0⟩) (fun i => xs.length - i) (fun i => i ≤ xs.length) 0 rfl (Nat.zero_le _) ?_
  intro i hi X ih
  conv => whnf
  refine ifP_of (fun h1 => ?_) (fun h1 => ?_)
  · have hi1 : i < xs.length := by rw [hlm] at h1; have := of_decide_eq_true h1; omega
    have hg := Item.css_get hi1
    conv => whnf
    try (refine chkP_of (by simp; done) ?_; conv => whnf)
    refine optP_of hg ?_
    conv => whnf
    refine Fn.use (H xs[i] (List.getElem_mem hi1)) ?_
    conv => whnf
    refine ⟨trivial, ?_⟩
    conv => whnf
    try (refine chkP_of (by simp; done) ?_; conv => whnf)
    refine optP_of (fill_get (by rw [hlm]; exact hi1)) ?_
    conv => whnf
    refine optP_of (fill_get (by rw [hlm]; exact hi1)) ?_
    conv => whnf
    have hw : IntKind.i64.wrap ((i : Int) + 1) = ((i + 1 : Nat) : Int) := by rw [wrap64 (by omega) (by omega)]; omega
    have h2 := ih (i+1) (by omega) (by omega)
    rw [← fill_set hg, ← hw] at h2
    exact h2
  · have hi1 : ¬ i < xs.length := by rw [hlm] at h1; have := of_decide_eq_false h1; omega
    conv => whnf
    exact ⟨congrArg (fun es => [V.own true 2 es]) (fill_end (by rw [hlm]; omega)), rfl⟩
theorem toItem_ok (a : Item) (H_vals : Fn Tryd.prog [] 98 [.sh 4 (Val.css a.vals)] [] (ret [.own true 4 (Val.css a.vals)] [])) : Fn Tryd.prog [] 81 [.agg a.acells] [] (ret [.agg a.ocells] []) := by
  obtain ⟨num, vals⟩ := a
  refine fn_of Tryd.func81 (by kernel_rfl) ?_
  conv => whnf
  refine Fn.use H_vals ?_
  conv => whnf
  refine ⟨trivial, ?_⟩
  conv => whnf
  exact ⟨rfl, rfl⟩
theorem toMsg_ok (a : Msg) (H_items : Fn Tryd.prog [] 49 [.sh 2 (Item.css a.items)] [] (ret [.own true 2 (Item.css a.items)] [])) (H_unk : Fn Tryd.prog [] 50 [.sh 1 (byteC a.unk)] [] (ret [.own true 1 (byteC a.unk)] [])) : Fn Tryd.prog [] 24 [.agg a.acells] [] (ret [.agg a.ocells] []) := by
  obtain ⟨items, unk⟩ := a
  refine fn_of Tryd.func24 (by kernel_rfl) ?_
  conv => whnf
  refine Fn.use H_items ?_
  conv => whnf
  refine ⟨trivial, ?_⟩
  conv => whnf
  refine Fn.use H_unk ?_
  conv => whnf
  refine ⟨trivial, ?_⟩
  conv => whnf
  exact ⟨rfl, rfl⟩
theorem toVal_ok (a : Val) (H_sub : Fn Tryd.prog [] 24 [.agg a.sub.acells] [] (ret [.agg a.sub.ocells] [])) : Fn Tryd.prog [] 7 [.agg a.acells] [] (ret [.agg a.ocells] []) := by
  obtain ⟨n, text, items, unk⟩ := a
  refine fn_of Tryd.func7 (by kernel_rfl) ?_
  conv => whnf
  refine Fn.use H_sub ?_
  conv => whnf
  refine ⟨trivial, ?_⟩
  conv => whnf
  exact ⟨rfl, rfl⟩
theorem toMsg_rec : ∀ (n : Nat) (a : Msg), sizeOf a < n → a.w ≤ 1048576 → Fn Tryd.prog [] 24 [.agg a.acells] [] (ret [.agg a.ocells] []) := by
  intro n
  induction n with
  | zero => intro a hn; omega
  | succ n ih =>
    intro a hn ha
    obtain ⟨items, unk⟩ := a
    have ha : Item.ws items + unk.length ≤ 1048576 := ha
    unfold Item.ws at ha
    have hs : sizeOf items < n := by have := Msg.mk.sizeOf_spec items unk; omega
    refine toMsg_ok _ (toItemS_ok items (by omega) (fun x hx => ?_)) (toByteS_ok unk (by omega))
    have w1 := Item.ss_mem hx
    have s1 := List.sizeOf_lt_of_mem hx
    obtain ⟨num, vals⟩ := x
    rw [Item.w] at w1
    refine toItem_ok _ (toValS_ok vals (by omega) (fun z hz => ?_))
    have w2 := Val.ss_mem hz
    have s2 := List.sizeOf_lt_of_mem hz
    obtain ⟨m, text, items2, unk2⟩ := z
    rw [Val.w] at w2
    refine toVal_ok _ (ih _ ?_ ?_)
    · have e1 := Item.mk.sizeOf_spec num vals
      have e2 := Val.mk.sizeOf_spec m text items2 unk2
      have e3 := Msg.mk.sizeOf_spec items2 unk2
      show sizeOf (Msg.mk items2 unk2) < n
      omega
    · show Msg.w ⟨items2, unk2⟩ ≤ _
      rw [Msg.w, Item.ws]; omega
theorem toMsg_all (a : Msg) (ha : a.w ≤ 1048576) : Fn Tryd.prog [] 24 [.agg a.acells] [] (ret [.agg a.ocells] []) := toMsg_rec _ a (Nat.lt_succ_self _) ha
theorem toVal_all (a : Val) (ha : a.w ≤ 1048576) : Fn Tryd.prog [] 7 [.agg a.acells] [] (ret [.agg a.ocells] []) := by
  obtain ⟨n, text, items, unk⟩ := a
  rw [Val.w] at ha
  exact toVal_ok _ (toMsg_all _ (by show Msg.w ⟨items, unk⟩ ≤ _; rw [Msg.w, Item.ws]; omega))
theorem eqByteS_ok (xs ys : List Int) (hb : xs.length ≤ 1099511627776)  : Fn Tryd.prog [] 9 [.sh 1 (byteC xs), .sh 1 (byteC ys)] [] (ret [.sc (.bool (eqb xs ys))] []) := by
  refine fn_of Tryd.func9 (by kernel_rfl) ?_
  have hlx := byteC_len xs
  have hly := byteC_len ys
  conv => whnf
  rw [hlx, hly]
  refine ifP_of (fun h => ?_) (fun h => ?_)
  · have hne : ¬ xs = ys := fun e => by rw [e] at h; simp at h
    conv => whnf
    exact ⟨congrArg (fun x : Bool => [V.sc (.bool x)]) (eqb_no hne).symm, rfl⟩
  · have hlen : xs.length = ys.length := by
      simp only [bne_eq_false_iff_eq] at h; omega
    conv => whnf
    refine loop_of (A := Nat) (fun i => ⟨[(0, .sh 1 (byteC xs)), (1, .sh 1 (byteC ys)), (5, .sc (.int .i64 i))], [], 0, 26, 0⟩) (fun i => xs.length - i) (fun i => i ≤ xs.length ∧ eqb (xs.drop i) (ys.drop i) = eqb xs ys) 0 rfl ⟨Nat.zero_le _, by rw [List.drop_zero, List.drop_zero]⟩ ?_
    intro i ⟨hi, hout⟩ X ih
    conv => whnf
    refine ifP_of (fun h2 => ?_) (fun h2 => ?_)
    · have hi1 : i < xs.length := by rw [hlx] at h2; have := of_decide_eq_true h2; omega
      have hi2 : i < ys.length := by omega
      have hx : xs.drop i = xs[i] :: xs.drop (i+1) := List.drop_eq_getElem_cons hi1
      have hy : ys.drop i = ys[i] :: ys.drop (i+1) := List.drop_eq_getElem_cons hi2
      conv => whnf
      try (refine chkP_of (by simp; done) ?_; conv => whnf)
      refine optP_of (byteC_get hi1) ?_
      conv => whnf
      try (refine chkP_of (by simp; done) ?_; conv => whnf)
      refine optP_of (byteC_get hi2) ?_
      conv => whnf
      refine ifP_of (fun h3 => ?_) (fun h3 => ?_)
      · have h3 : ¬ xs[i] = ys[i] := by simpa [bytes_eq] using h3
        conv => whnf
        exact ⟨congrArg (fun x : Bool => [V.sc (.bool x)]) (show false = eqb xs ys by rw [← hout, hx, hy, eqb_no (fun e => h3 (List.cons.inj e).1)]), rfl⟩
      · have h3 : xs[i] = ys[i] := by simpa [bytes_eq] using h3
        conv => whnf
        have hw : IntKind.i64.wrap ((i : Int) + 1) = ((i + 1 : Nat) : Int) := by rw [wrap64 (by omega) (by omega)]; omega
        have h5 := ih (i+1) ⟨by omega, by rw [← hout, hx, hy, eqb_cons h3]⟩ (by omega)
        rw [← hw] at h5
        exact h5
    · have hi1 : ¬ i < xs.length := by rw [hlx] at h2; have := of_decide_eq_false h2; omega
      conv => whnf
      exact ⟨congrArg (fun x : Bool => [V.sc (.bool x)]) (show true = eqb xs ys by rw [← hout, List.drop_eq_nil_of_le (by omega), List.drop_eq_nil_of_le (by omega), eqb_yes rfl]), rfl⟩
theorem eqValS_ok (xs ys : List Val) (hb : xs.length ≤ 1099511627776) (H : ∀ x ∈ xs, ∀ y ∈ ys, Fn Tryd.prog [] 10 [.agg x.acells, .agg y.acells] [] (ret [.sc (.bool (eqb x y))] [])) : Fn Tryd.prog [] 100 [.sh 4 (Val.css xs), .sh 4 (Val.css ys)] [] (ret [.sc (.bool (eqb xs ys))] []) := by
  refine fn_of Tryd.func100 (by kernel_rfl) ?_
  have hlx := Val.css_len xs
  have hly := Val.css_len ys
  conv => whnf
  rw [hlx, hly]
  refine ifP_of (fun h => ?_) (fun h => ?_)
  · have hne : ¬ xs = ys := fun e => by rw [e] at h; simp at h
    conv => whnf
    exact ⟨congrArg (fun x : Bool => [V.sc (.bool x)]) (eqb_no hne).symm, rfl⟩
  · have hlen : xs.length = ys.length := by
      simp only [bne_eq_false_iff_eq] at h; omega
    conv => whnf
    refine loop_of (A := Nat) (fun i => ⟨[(0, .sh 4 (Val.css xs)), (1, .sh 4 (Val.css ys)), (5, .sc (.int .i64 i))], [], 0, 27, 0⟩) (fun i => xs.length - i) (fun i => i ≤ xs.length ∧ eqb (xs.drop i) (ys.drop i) = eqb xs ys) 0 rfl ⟨Nat.zero_le _, by rw [List.drop_zero, List.drop_zero]⟩ ?_
    intro i ⟨hi, hout⟩ X ih
    conv => whnf
    refine ifP_of (fun h2 => ?_) (fun h2 => ?_)
    · have hi1 : i < xs.length := by rw [hlx] at h2; have := of_decide_eq_true h2; omega
      have hi2 : i < ys.length := by omega
      have hx : xs.drop i = xs[i] :: xs.drop (i+1) := List.drop_eq_getElem_cons hi1
      have hy : ys.drop i = ys[i] :: ys.drop (i+1) := List.drop_eq_getElem_cons hi2
      conv => whnf
      try (refine chkP_of (by simp; done) ?_; conv => whnf)
      refine optP_of (Val.css_get hi1) ?_
      conv => whnf
      try (refine chkP_of (by simp; done) ?_; conv => whnf)
      refine optP_of (Val.css_get hi2) ?_
      conv => whnf
      refine Fn.use (H xs[i] (List.getElem_mem hi1) ys[i] (List.getElem_mem hi2)) ?_
      conv => whnf
      refine ⟨trivial, ?_⟩
      conv => whnf
      refine ifP_of (fun h3 => ?_) (fun h3 => ?_)
      · have h3 : ¬ xs[i] = ys[i] := of_eqb_no (by simpa using h3)
        conv => whnf
        exact ⟨congrArg (fun x : Bool => [V.sc (.bool x)]) (show false = eqb xs ys by rw [← hout, hx, hy, eqb_no (fun e => h3 (List.cons.inj e).1)]), rfl⟩
      · have h3 : xs[i] = ys[i] := of_eqb (by simpa using h3)
        conv => whnf
        have hw : IntKind.i64.wrap ((i : Int) + 1) = ((i + 1 : Nat) : Int) := by rw [wrap64 (by omega) (by omega)]; omega
        have h5 := ih (i+1) ⟨by omega, by rw [← hout, hx, hy, eqb_cons h3]⟩ (by omega)
        rw [← hw] at h5
        exact h5
    · have hi1 : ¬ i < xs.length := by rw [hlx] at h2; have := of_decide_eq_false h2; omega
      conv => whnf
      exact ⟨congrArg (fun x : Bool => [V.sc (.bool x)]) (show true = eqb xs ys by rw [← hout, List.drop_eq_nil_of_le (by omega), List.drop_eq_nil_of_le (by omega), eqb_yes rfl]), rfl⟩
theorem eqItemS_ok (xs ys : List Item) (hb : xs.length ≤ 1099511627776) (H : ∀ x ∈ xs, ∀ y ∈ ys, Fn Tryd.prog [] 83 [.agg x.acells, .agg y.acells] [] (ret [.sc (.bool (eqb x y))] [])) : Fn Tryd.prog [] 55 [.sh 2 (Item.css xs), .sh 2 (Item.css ys)] [] (ret [.sc (.bool (eqb xs ys))] []) := by
  refine fn_of Tryd.func55 (by kernel_rfl) ?_
  have hlx := Item.css_len xs
  have hly := Item.css_len ys
  conv => whnf
  rw [hlx, hly]
  refine ifP_of (fun h => ?_) (fun h => ?_)
  · have hne : ¬ xs = ys := fun e => by rw [e] at h; simp at h
    conv => whnf
    exact ⟨congrArg (fun x : Bool => [V.sc (.bool x)]) (eqb_no hne).symm, rfl⟩
  · have hlen : xs.length = ys.length := by
      simp only [bne_eq_false_iff_eq] at h; omega
    conv => whnf
    refine loop_of (A := Nat) (fun i => ⟨[(0, .sh 2 (Item.css xs)), (1, .sh 2 (Item.css ys)), (5, .sc (.int .i64 i))], [], 0, 27, 0⟩) (fun i => xs.length - i) (fun i => i ≤ xs.length ∧ eqb (xs.drop i) (ys.drop i) = eqb xs ys) 0 rfl ⟨Nat.zero_le _, by rw [List.drop_zero, List.drop_zero]⟩ ?_
    intro i ⟨hi, hout⟩ X ih
    conv => whnf
    refine ifP_of (fun h2 => ?_) (fun h2 => ?_)
    · have hi1 : i < xs.length := by rw [hlx] at h2; have := of_decide_eq_true h2; omega
      have hi2 : i < ys.length := by omega
      have hx : xs.drop i = xs[i] :: xs.drop (i+1) := List.drop_eq_getElem_cons hi1
      have hy : ys.drop i = ys[i] :: ys.drop (i+1) := List.drop_eq_getElem_cons hi2
      conv => whnf
      try (refine chkP_of (by simp; done) ?_; conv => whnf)
      refine optP_of (Item.css_get hi1) ?_
      conv => whnf
      try (refine chkP_of (by simp; done) ?_; conv => whnf)
      refine optP_of (Item.css_get hi2) ?_
      conv => whnf
      refine Fn.use (H xs[i] (List.getElem_mem hi1) ys[i] (List.getElem_mem hi2)) ?_
      conv => whnf
      refine ⟨trivial, ?_⟩
      conv => whnf
      refine ifP_of (fun h3 => ?_) (fun h3 => ?_)
      · have h3 : ¬ xs[i] = ys[i] := of_eqb_no (by simpa using h3)
        conv => whnf
        exact ⟨congrArg (fun x : Bool => [V.sc (.bool x)]) (show false = eqb xs ys by rw [← hout, hx, hy, eqb_no (fun e => h3 (List.cons.inj e).1)]), rfl⟩
      · have h3 : xs[i] = ys[i] := of_eqb (by simpa using h3)
        conv => whnf
        have hw : IntKind.i64.wrap ((i : Int) + 1) = ((i + 1 : Nat) : Int) := by rw [wrap64 (by omega) (by omega)]; omega
        have h5 := ih (i+1) ⟨by omega, by rw [← hout, hx, hy, eqb_cons h3]⟩ (by omega)
        rw [← hw] at h5
        exact h5
    · have hi1 : ¬ i < xs.length := by rw [hlx] at h2; have := of_decide_eq_false h2; omega
      conv => whnf
      exact ⟨congrArg (fun x : Bool => [V.sc (.bool x)]) (show true = eqb xs ys by rw [← hout, List.drop_eq_nil_of_le (by omega), List.drop_eq_nil_of_le (by omega), eqb_yes rfl]), rfl⟩
theorem eqItem_ok (a b : Item) (H_vals : Fn Tryd.prog [] 100 [.sh 4 (Val.css a.vals), .sh 4 (Val.css b.vals)] [] (ret [.sc (.bool (eqb a.vals b.vals))] [])) : Fn Tryd.prog [] 83 [.agg a.acells, .agg b.acells] [] (ret [.sc (.bool (eqb a b))] []) := by
  obtain ⟨a_num, a_vals⟩ := a
  obtain ⟨b_num, b_vals⟩ := b
  refine fn_of Tryd.func83 (by kernel_rfl) ?_
  conv => whnf
  refine ifP_of (fun h => ?_) (fun h => ?_)
  · have h : ¬ a_num = b_num := by simpa [bytes_eq] using h
    conv => whnf
    exact ⟨congrArg (fun x : Bool => [V.sc (.bool x)]) (eqb_no (fun e => h (by injection e))).symm, rfl⟩
  · have g0 : a_num = b_num := by simpa [bytes_eq] using h
    conv => whnf
    refine Fn.use H_vals ?_
    conv => whnf
    refine ⟨trivial, ?_⟩
    conv => whnf
    refine ifP_of (fun h => ?_) (fun h => ?_)
    · have h : ¬ a_vals = b_vals := of_eqb_no (by simpa using h)
      conv => whnf
      exact ⟨congrArg (fun x : Bool => [V.sc (.bool x)]) (eqb_no (fun e => h (by injection e))).symm, rfl⟩
    · have g1 : a_vals = b_vals := of_eqb (by simpa using h)
      conv => whnf
      exact ⟨congrArg (fun x : Bool => [V.sc (.bool x)]) (eqb_yes (by rw [g0, g1])).symm, rfl⟩
theorem eqMsg_ok (a b : Msg) (H_items : Fn Tryd.prog [] 55 [.sh 2 (Item.css a.items), .sh 2 (Item.css b.items)] [] (ret [.sc (.bool (eqb a.items b.items))] [])) (H_unk : Fn Tryd.prog [] 9 [.sh 1 (byteC a.unk), .sh 1 (byteC b.unk)] [] (ret [.sc (.bool (eqb a.unk b.unk))] [])) : Fn Tryd.prog [] 30 [.agg a.acells, .agg b.acells] [] (ret [.sc (.bool (eqb a b))] []) := by
  obtain ⟨a_items, a_unk⟩ := a
  obtain ⟨b_items, b_unk⟩ := b
  refine fn_of Tryd.func30 (by kernel_rfl) ?_
  conv => whnf
  refine Fn.use H_items ?_
  conv => whnf
  refine ⟨trivial, ?_⟩
  conv => whnf
  refine ifP_of (fun h => ?_) (fun h => ?_)
  · have h : ¬ a_items = b_items := of_eqb_no (by simpa using h)
    conv => whnf
    exact ⟨congrArg (fun x : Bool => [V.sc (.bool x)]) (eqb_no (fun e => h (by injection e))).symm, rfl⟩
  · have g0 : a_items = b_items := of_eqb (by simpa using h)
    conv => whnf
    refine Fn.use H_unk ?_
    conv => whnf
    refine ⟨trivial, ?_⟩
    conv => whnf
    refine ifP_of (fun h => ?_) (fun h => ?_)
    · have h : ¬ a_unk = b_unk := of_eqb_no (by simpa using h)
      conv => whnf
      exact ⟨congrArg (fun x : Bool => [V.sc (.bool x)]) (eqb_no (fun e => h (by injection e))).symm, rfl⟩
    · have g1 : a_unk = b_unk := of_eqb (by simpa using h)
      conv => whnf
      exact ⟨congrArg (fun x : Bool => [V.sc (.bool x)]) (eqb_yes (by rw [g0, g1])).symm, rfl⟩
theorem eqVal_ok (a b : Val) (H_sub : Fn Tryd.prog [] 30 [.agg a.sub.acells, .agg b.sub.acells] [] (ret [.sc (.bool (eqb a.sub b.sub))] [])) : Fn Tryd.prog [] 10 [.agg a.acells, .agg b.acells] [] (ret [.sc (.bool (eqb a b))] []) := by
  obtain ⟨a_n, a_text, a_items, a_unk⟩ := a
  obtain ⟨b_n, b_text, b_items, b_unk⟩ := b
  refine fn_of Tryd.func10 (by kernel_rfl) ?_
  conv => whnf
  refine ifP_of (fun h => ?_) (fun h => ?_)
  · have h : ¬ a_n = b_n := by simpa [bytes_eq] using h
    conv => whnf
    exact ⟨congrArg (fun x : Bool => [V.sc (.bool x)]) (eqb_no (fun e => h (by injection e))).symm, rfl⟩
  · have g0 : a_n = b_n := by simpa [bytes_eq] using h
    conv => whnf
    refine ifP_of (fun h => ?_) (fun h => ?_)
    · have h : ¬ a_text = b_text := by simpa [bytes_eq] using h
      conv => whnf
      exact ⟨congrArg (fun x : Bool => [V.sc (.bool x)]) (eqb_no (fun e => h (by injection e))).symm, rfl⟩
    · have g1 : a_text = b_text := by simpa [bytes_eq] using h
      conv => whnf
      refine Fn.use H_sub ?_
      conv => whnf
      refine ⟨trivial, ?_⟩
      conv => whnf
      refine ifP_of (fun h => ?_) (fun h => ?_)
      · have h : ¬ (⟨a_items, a_unk⟩ : Msg) = ⟨b_items, b_unk⟩ := of_eqb_no (by simpa [Val.sub] using h)
        conv => whnf
        exact ⟨congrArg (fun x : Bool => [V.sc (.bool x)]) (eqb_no (fun e => h (by injection e with e1 e2 e3 e4; rw [e3, e4]))).symm, rfl⟩
      · have g2 : (⟨a_items, a_unk⟩ : Msg) = ⟨b_items, b_unk⟩ := of_eqb (by simpa [Val.sub] using h)
        conv => whnf
        injection g2 with g3 g4
        exact ⟨congrArg (fun x : Bool => [V.sc (.bool x)]) (eqb_yes (by rw [g0, g1, g3, g4])).symm, rfl⟩
theorem eqMsg_rec : ∀ (n : Nat) (a : Msg), sizeOf a < n → a.w ≤ 1048576 → ∀ b : Msg, Fn Tryd.prog [] 30 [.agg a.acells, .agg b.acells] [] (ret [.sc (.bool (eqb a b))] []) := by
  intro n
  induction n with
  | zero => intro a hn; omega
  | succ n ih =>
    intro a hn ha b
    obtain ⟨items, unk⟩ := a
    obtain ⟨items_, unk_⟩ := b
    have ha : Item.ws items + unk.length ≤ 1048576 := ha
    unfold Item.ws at ha
    have hs : sizeOf items < n := by have := Msg.mk.sizeOf_spec items unk; omega
    refine eqMsg_ok _ _ (eqItemS_ok items items_ (by omega) (fun x hx y hy => ?_)) (eqByteS_ok unk unk_ (by omega))
    have w1 := Item.ss_mem hx
    have s1 := List.sizeOf_lt_of_mem hx
    obtain ⟨num, vals⟩ := x
    obtain ⟨num_, vals_⟩ := y
    rw [Item.w] at w1
    refine eqItem_ok _ _ (eqValS_ok vals vals_ (by omega) (fun z hz z2 hz2 => ?_))
    have w2 := Val.ss_mem hz
    have s2 := List.sizeOf_lt_of_mem hz
    obtain ⟨m, text, items2, unk2⟩ := z
    rw [Val.w] at w2
    refine eqVal_ok _ _ (ih _ ?_ ?_ _)
    · have e1 := Item.mk.sizeOf_spec num vals
      have e2 := Val.mk.sizeOf_spec m text items2 unk2
      have e3 := Msg.mk.sizeOf_spec items2 unk2
      show sizeOf (Msg.mk items2 unk2) < n
      omega
    · show Msg.w ⟨items2, unk2⟩ ≤ _
      rw [Msg.w, Item.ws]; omega
theorem eqMsg_all (a : Msg) (ha : a.w ≤ 1048576) : ∀ b : Msg, Fn Tryd.prog [] 30 [.agg a.acells, .agg b.acells] [] (ret [.sc (.bool (eqb a b))] []) := eqMsg_rec _ a (Nat.lt_succ_self _) ha
theorem eqVal_all (a : Val) (ha : a.w ≤ 1048576) : ∀ b : Val, Fn Tryd.prog [] 10 [.agg a.acells, .agg b.acells] [] (ret [.sc (.bool (eqb a b))] []) := by
  intro b
  obtain ⟨n, text, items, unk⟩ := a
  rw [Val.w] at ha
  exact eqVal_ok _ _ (eqMsg_all _ (by show Msg.w ⟨items, unk⟩ ≤ _; rw [Msg.w, Item.ws]; omega) _)
end Ev
open Go Ev
open Go.Proofs
set_option maxRecDepth 100000
set_option maxHeartbeats 4000000
set_option linter.unusedVariables false
namespace Ev
theorem il' {x y : Int} (h : x = y) : [V.sc (.int .i64 x)] = [V.sc (.int .i64 y)] := by rw [h]
theorem gset {D R : List (List V)} (r : List V) : (D ++ r :: R)[((D.length : Nat) : Int).toNat]? = some r := by
  rw [Int.toNat_natCast, List.getElem?_append_right (Nat.le_refl _), Nat.sub_self]; rfl
theorem pset {D R : List (List V)} (r x : List V) : putAt (fun es => es.set ((D.length : Nat) : Int).toNat x) (D ++ r :: R) [] = D ++ x :: R := by
  show (D ++ r :: R).set ((D.length : Nat) : Int).toNat x = _
  rw [Int.toNat_natCast, List.set_append_right (h := Nat.le_refl _), Nat.sub_self]; rfl
theorem hwk {k : Int} (h0 : 0 ≤ k) (h1 : k ≤ 4611686018427387904) : IntKind.i64.wrap (k + 1) = k + 1 := wrap64 (by omega) (by omega)
theorem hwn {n : Nat} (h1 : n ≤ 4611686018427387904) : IntKind.i64.wrap ((n : Int) + 1) = ((n + 1 : Nat) : Int) := by rw [wrap64 (by omega) (by omega)]; omega
theorem lenl {D R : List (List V)} {r : List V} : decide (((D.length : Nat) : Int) < (((D ++ r :: R).length : Nat) : Int)) = true := by rw [List.length_append, List.length_cons]; exact decide_eq_true (by omega)
theorem ifP_no {b : Bool} {A B : Prop} (h : b = false) (k : B) : ifP b A B := by rw [h]; exact k
theorem ifP_yes {b : Bool} {A B : Prop} (h : b = true) (k : A) : ifP b A B := by rw [h]; exact k
theorem neI (x : Int) : (x != x) = false := by simp
theorem neB (x : Bool) : (x != x) = false := by simp
theorem neS (x : ByteArray) : (!(x.toList == x.toList)) = false := by simp
def mkSt (n fz : Nat) (D R : List (List V)) (k : Int) : St := ⟨[(0, .hdr 0 []), (1, .sc (.int .i64 k)), (5, .sc (.int .i64 D.length))], [(0, some ⟨D ++ R, true, n, false⟩)], 1, fz, 1⟩
def hdSt (n fz : Nat) (D R : List (List V)) (k : Int) : St := ⟨[(0, .sh n (D ++ R)), (1, .sc (.int .i64 k)), (5, .sc (.int .i64 D.length))], [], 0, fz, 0⟩
def eM {α : Type} (n fz : Nat) (css : List α → List (List V)) (x : List α × List α × Int) : St := mkSt n fz (css x.1) (css x.2.1) x.2.2
def eK {α : Type} (n fz : Nat) (cssk : List α → Int → List (List V)) (x : List (List V) × List α × Int) : St := hdSt n fz x.1 (cssk x.2.1 x.2.2) x.2.2
theorem eM_eq {α : Type} (n fz : Nat) (css : List α → List (List V)) (d r : List α) (k : Int) : eM n fz css (d, r, k) = ⟨[(0, .hdr 0 []), (1, .sc (.int .i64 k)), (5, .sc (.int .i64 (css d).length))], [(0, some ⟨css d ++ css r, true, n, false⟩)], 1, fz, 1⟩ := rfl
theorem eK_eq {α : Type} (n fz : Nat) (cssk : List α → Int → List (List V)) (D : List (List V)) (r : List α) (k : Int) : eK n fz cssk (D, r, k) = ⟨[(0, .sh n (D ++ cssk r k)), (1, .sc (.int .i64 k)), (5, .sc (.int .i64 D.length))], [], 0, fz, 0⟩ := rfl
theorem intC_app (d : List Int) (a : Int) (R : List (List V)) : intC d ++ [.sc (.int .i64 a)] :: R = intC (d ++ [a]) ++ R := by unfold intC; rw [List.map_append, List.append_assoc]; rfl
theorem byteC_app' (d : List Int) (a : Int) (R : List (List V)) : byteC d ++ [.sc (.int .u8 a)] :: R = byteC (d ++ [a]) ++ R := by unfold byteC; rw [List.map_append, List.append_assoc]; rfl
theorem strC_app (d : List ByteArray) (a : ByteArray) (R : List (List V)) : strC d ++ [.sc (.string a)] :: R = strC (d ++ [a]) ++ R := by unfold strC; rw [List.map_append, List.append_assoc]; rfl
theorem intC_cons (a : Int) (l : List Int) : intC (a :: l) = [.sc (.int .i64 a)] :: intC l := rfl
theorem byteC_cons (a : Int) (l : List Int) : byteC (a :: l) = [.sc (.int .u8 a)] :: byteC l := rfl
theorem strC_cons (a : ByteArray) (l : List ByteArray) : strC (a :: l) = [.sc (.string a)] :: strC l := rfl
/-- Figures of a number, behind what is there. -/
def figF (x : Int × ByteArray) : Int × ByteArray := (IntKind.i64.wrap (x.1.tdiv 10), (⟨#[(48 + x.1.toNat % 10).toUInt8]⟩ : ByteArray) ++ x.2)
def figs : Nat → Int × ByteArray → ByteArray
  | 0, x => x.2
  | n + 1, x => match decide (x.1 > 0) with
    | true => figs n (figF x)
    | false => x.2
def txtM (k : Int) : ByteArray := match decide (k ≤ 0) with
  | true => ⟨#[109, 48]⟩
  | false => (⟨#[109]⟩ : ByteArray) ++ figs 20 (k, .empty)
def intM : List Int → Int → List Int
  | [], _ => []
  | _ :: l, k => k :: intM l (k + 1)
def byteM : List Int → Int → List Int
  | [], _ => []
  | _ :: l, k => IntKind.u8.wrap k :: byteM l (k + 1)
def strM : List ByteArray → Int → List ByteArray
  | [], _ => []
  | _ :: l, k => txtM k :: strM l (k + 1)
theorem fig_byte {k : Int} (h0 : 0 < k) : IntKind.u8.wrap (IntKind.i64.wrap (48 + k.tmod 10)) = (((48 + k.toNat % 10).toUInt8).toNat : Int) := by
  rw [Int.tmod_eq_emod_of_nonneg (by omega), wrap64 (by omega) (by omega), IntKind.wrap_u8]
  have : ((48 + k.toNat % 10).toUInt8).toNat = 48 + k.toNat % 10 := by
    show (48 + k.toNat % 10) % 256 = _
    omega
  rw [this]; omega
theorem markText_ok (k : Int) (h0 : 0 ≤ k) (h1 : k ≤ 4611686018427387904) : Fn Tryd.prog [] 101 [.sc (.int .i64 k)] [] (ret [.sc (.string (txtM k))] []) := by
  have hr : txtM k = match decide (k ≤ 0) with
    | true => ⟨#[109, 48]⟩
    | false => (⟨#[109]⟩ : ByteArray) ++ figs 20 (k, .empty) := rfl
  generalize txtM k = R at *
  refine fn_of Tryd.func101 (by kernel_rfl) ?_
  conv => whnf
  refine ifP_of (fun c0 => ?_) (fun c0 => ?_)
  · rw [c0] at hr
    subst hr
    conv => whnf
    exact ⟨rfl, rfl⟩
  rw [c0] at hr
  dsimp only at hr
  generalize hF : figs 20 (k, .empty) = F at *
  conv => whnf
  refine loop_of (A := Nat × Int × ByteArray) (fun x => ⟨[(0, .sc (.int .i64 x.2.1)), (3, .sc (.string x.2.2))], [], 0, 20, 0⟩) (fun x => x.2.1.toNat) (fun x => 0 ≤ x.2.1 ∧ x.2.1 < 10 ^ x.1 ∧ x.2.1 ≤ 4611686018427387904 ∧ x.2.2.size + x.1 ≤ 20 ∧ figs x.1 (x.2.1, x.2.2) = F) (20, k, .empty) rfl ⟨h0, by show k < 10 ^ 20; omega, h1, Nat.le_refl 20, hF⟩ ?_
  clear hF h0 h1 c0
  intro ⟨n, k, s⟩ ⟨h0, h2, h1, h3, hF⟩ X ih
  dsimp only at h0 h2 h1 h3 hF
  conv => whnf
  refine ifP_of (fun c1 => ?_) (fun c1 => ?_)
  · have c1' : k > 0 := of_decide_eq_true c1
    obtain ⟨n, rfl⟩ : ∃ m, n = m + 1 := ⟨n - 1, by
      rcases n with _ | n
      · have : k < 1 := h2
        omega
      · omega⟩
    rw [figs, show decide ((k, s).1 > 0) = true from c1] at hF
    have hq : IntKind.i64.wrap (k.tdiv 10) = k / 10 := by rw [Int.tdiv_eq_ediv_of_nonneg (by omega)]; exact wrap64 (by omega) (by omega)
    have hb := fig_byte c1'
    have hsz : (⟨#[(48 + k.toNat % 10).toUInt8]⟩ : ByteArray).size = 1 := rfl
    have h4 : k / 10 < 10 ^ n := by
      rw [Int.pow_succ] at h2
      omega
    have fin := ih (n, k / 10, (⟨#[(48 + k.toNat % 10).toUInt8]⟩ : ByteArray) ++ s) ⟨by dsimp only; omega, h4, by dsimp only; omega, by dsimp only; rw [ByteArray.size_append, hsz]; omega, by
      rw [← hF]
      show figs n (k / 10, _) = figs n (figF (k, s))
      rw [figF, hq]⟩ (by dsimp only; omega)
    dsimp only at fin
    rw [← hq] at fin
    clear ih hF
    conv => whnf
    refine ⟨[(48 + k.toNat % 10).toUInt8], ?_, ?_⟩
    · rw [hb]; rfl
    conv => whnf
    refine chkP_of ?hchk ?_
    case hchk => first | exact decide_eq_true (by omega) | (simp; done) | (simp; omega) | exact decide_eq_true (show (⟨#[(48 + k.toNat % 10).toUInt8]⟩ : ByteArray).size + s.size ≤ 9223372036854775807 by rw [hsz]; omega)
    conv => whnf
    exact fin
  · have c1' : ¬ k > 0 := of_decide_eq_false c1
    have h5 : s = F := by
      rw [← hF]
      cases n with
      | zero => rfl
      | succ n => rw [figs, show decide ((k, s).1 > 0) = false from c1]
    subst h5
    conv => whnf
    refine chkP_of ?hchk ?_
    case hchk => first | exact decide_eq_true (by omega) | (simp; done) | (simp; omega) | exact decide_eq_true (show (⟨#[109]⟩ : ByteArray).size + s.size ≤ 9223372036854775807 by have : (⟨#[109]⟩ : ByteArray).size = 1 := rfl; rw [this]; omega)
    conv => whnf
    subst hr
    exact ⟨rfl, rfl⟩
theorem markByteS_ok (l : List Int) (k : Int) (h0 : 0 ≤ k) (hb : k + ((l.length : Nat) : Int) ≤ 4611686018427387904) : Fn Tryd.prog [] 12 [.hdr 0 [], .sc (.int .i64 k)] [⟨byteC l, true, 1, false⟩] (ret [.sc (.int .i64 (k + ((l.length : Nat) : Int)))] [⟨byteC (byteM l k), true, 1, false⟩]) := by
  have hl : l.length ≤ 4611686018427387904 := by omega
  generalize hF : byteM l k = F
  generalize hK : k + ((l.length : Nat) : Int) = K at *
  refine fn_of Tryd.func12 (by kernel_rfl) ?_
  conv => whnf
  refine loop_of (A := List Int × List Int × Int) (eM 1 20 byteC) (fun x => x.2.1.length) (fun x => x.1 ++ byteM x.2.1 x.2.2 = F ∧ x.2.2 + ((x.2.1.length : Nat) : Int) = K ∧ 0 ≤ x.2.2 ∧ x.1.length + x.2.1.length ≤ 4611686018427387904) ([], l, k) rfl ⟨hF, hK, h0, by simpa using hl⟩ ?_
  clear hF hK h0 hl
  intro ⟨d, r, k⟩ ⟨h1, h2, h3, h4⟩ X ih
  dsimp only at h1 h2 h3 h4
  cases r with
  | nil =>
    have h6 : d = F := by rw [← h1]; simp [byteM]
    rw [eM_eq, show byteC [] = [] from rfl, List.append_nil]
    subst h6
    generalize byteC d = D at *
    conv => whnf
    refine ifP_of (fun c1 => ?_) (fun c1 => ?_)
    · have := of_decide_eq_true c1; omega
    · conv => whnf
      exact ⟨il' (by rw [← h2]; simp), rfl⟩
  | cons a r =>
    rw [show List.length (a :: r) = r.length + 1 from by rfl] at h2
    rw [List.length_cons] at h4
    have fin := ih (d ++ [(IntKind.u8.wrap k)], r, k + 1) ⟨by dsimp only; rw [← h1, byteM, List.append_assoc]; rfl, by dsimp only; omega, by dsimp only; omega, by dsimp only; rw [List.length_append, List.length_singleton]; omega⟩ (by dsimp only; rw [List.length_cons]; omega)
    rw [eM_eq, ← byteC_app'] at fin
    rw [show ((byteC (d ++ [(IntKind.u8.wrap k)])).length : Nat) = (byteC d).length + 1 by rw [byteC_len, byteC_len, List.length_append]; rfl] at fin
    rw [eM_eq]
    have hlen : (byteC d).length = d.length := byteC_len _
    have hw2 := hwn (n := (byteC d).length) (by omega)
    clear ih h1
    generalize byteC d = D at *
    rw [show byteC (a :: r) = [.sc (.int .u8 a)] :: byteC r from rfl]
    generalize byteC r = R at *
    conv => whnf
    refine ifP_yes lenl ?_
    conv => whnf
    repeat' (first
      | (refine optP_of (gset _) ?_; (conv => whnf))
      | rw [pset]
      | rw [hwk (k := k) (by omega) (by omega)]
      | rw [hw2])
    exact fin
theorem heldByteS_ok (l : List Int) (k : Int) (h0 : 0 ≤ k) (hb : k + ((l.length : Nat) : Int) ≤ 4611686018427387904) : Fn Tryd.prog [] 13 [.sh 1 (byteC (byteM l k)), .sc (.int .i64 k)] [] (ret [.sc (.int .i64 (k + ((l.length : Nat) : Int)))] []) := by
  have hl : l.length ≤ 4611686018427387904 := by omega
  generalize hK : k + ((l.length : Nat) : Int) = K at *
  refine fn_of Tryd.func13 (by kernel_rfl) ?_
  conv => whnf
  refine loop_of (A := List (List V) × List Int × Int) (eK 1 22 (fun r k => byteC (byteM r k))) (fun x => x.2.1.length) (fun x => x.2.2 + ((x.2.1.length : Nat) : Int) = K ∧ 0 ≤ x.2.2 ∧ x.1.length + x.2.1.length ≤ 4611686018427387904) ([], l, k) rfl ⟨hK, h0, by simpa using hl⟩ ?_
  clear hK h0 hl
  intro ⟨D, r, k⟩ ⟨h2, h3, h4⟩ X ih
  dsimp only at h2 h3 h4
  cases r with
  | nil =>
    rw [eK_eq, show byteC (byteM [] k) = [] from by rw [byteM]; rfl, List.append_nil]
    conv => whnf
    refine ifP_of (fun c1 => ?_) (fun c1 => ?_)
    · have := of_decide_eq_true c1; omega
    · conv => whnf
      exact ⟨il' (by rw [← h2]; simp), rfl⟩
  | cons a r =>
    rw [show List.length (a :: r) = r.length + 1 from by rfl] at h2
    rw [List.length_cons] at h4
    have fin := ih (D ++ [[.sc (.int .u8 (IntKind.u8.wrap k))]], r, k + 1) ⟨by dsimp only; omega, by dsimp only; omega, by dsimp only; rw [List.length_append, List.length_singleton]; omega⟩ (by dsimp only; rw [List.length_cons]; omega)
    rw [eK_eq, List.append_assoc, List.length_append, List.length_singleton] at fin
    rw [eK_eq, show byteC (byteM (a :: r) k) = [.sc (.int .u8 (IntKind.u8.wrap k))] :: byteC (byteM r (k + 1)) from by rw [byteM, byteC_cons]]
    have fin : X ⟨[(0, .sh 1 (D ++ [.sc (.int .u8 (IntKind.u8.wrap k))] :: byteC (byteM r (k + 1)))), (1, .sc (.int .i64 (k + 1))), (5, .sc (.int .i64 ((D.length + 1 : Nat) : Int)))], [], 0, 22, 0⟩ := fin
    have hw2 := hwn (n := D.length) (by omega)
    clear ih
    generalize byteC (byteM r (k + 1)) = R at *
    conv => whnf
    refine ifP_yes lenl ?_
    conv => whnf
    repeat' (first
      | (refine optP_of (gset _) ?_; (conv => whnf))
      | rw [hwk (k := k) (by omega) (by omega)]
      | rw [hw2]
      | (refine ifP_no (neI _) ?_; (conv => whnf))
      | (refine ifP_no (neB _) ?_; (conv => whnf))
      | (refine ifP_no (neS _) ?_; (conv => whnf))
      | (refine ifP_no (decide_eq_false (by omega)) ?_; (conv => whnf)))
    exact fin
mutual
def Val.cn : Val → Nat
  | ⟨n, text, items, unk⟩ => 1 + 1 + Item.cns items + unk.length
def Item.cn : Item → Nat
  | ⟨num, vals⟩ => 1 + Val.cns vals
def Val.cns : List Val → Nat
  | [] => 0
  | a :: l => a.cn + Val.cns l
def Item.cns : List Item → Nat
  | [] => 0
  | a :: l => a.cn + Item.cns l
end
mutual
def Val.mk' : Val → Int → Val
  | ⟨n, text, items, unk⟩, k => ⟨k, txtM (k + 1), Item.mks items (k + 1 + 1), byteM unk (k + 1 + 1 + ((Item.cns items : Nat) : Int))⟩
def Item.mk' : Item → Int → Item
  | ⟨num, vals⟩, k => ⟨k, Val.mks vals (k + 1)⟩
def Val.mks : List Val → Int → List Val
  | [], _ => []
  | a :: l, k => a.mk' k :: Val.mks l (k + ((a.cn : Nat) : Int))
def Item.mks : List Item → Int → List Item
  | [], _ => []
  | a :: l, k => a.mk' k :: Item.mks l (k + ((a.cn : Nat) : Int))
end
def Msg.cn : Msg → Nat
  | ⟨items, unk⟩ => Item.cns items + unk.length
def Msg.mk' : Msg → Int → Msg
  | ⟨items, unk⟩, k => ⟨Item.mks items (k), byteM unk (k + ((Item.cns items : Nat) : Int))⟩
theorem Val.cns_ge : ∀ (l : List Val), l.length ≤ Val.cns l
  | [] => Nat.zero_le _
  | ⟨n, text, items, unk⟩ :: l => by
    have := Val.cns_ge l
    rw [List.length_cons, Val.cns, Val.cn]; omega
theorem Val.mks_len : ∀ (l : List Val) (k : Int), (Val.mks l k).length = l.length
  | [], _ => by rw [Val.mks]
  | a :: l, k => by rw [Val.mks, List.length_cons, List.length_cons, Val.mks_len l]
theorem Val.css_app (d : List Val) (a : Val) (R : List (List V)) : Val.css d ++ a.cells :: R = Val.css (d ++ [a]) ++ R := by
  induction d with
  | nil => rw [Val.css, List.nil_append, List.nil_append, Val.css, Val.cs_eq, Val.css]; rfl
  | cons b d ih => rw [Val.css, List.cons_append, List.cons_append, Val.css, ih]; rfl
theorem Item.cns_ge : ∀ (l : List Item), l.length ≤ Item.cns l
  | [] => Nat.zero_le _
  | ⟨num, vals⟩ :: l => by
    have := Item.cns_ge l
    rw [List.length_cons, Item.cns, Item.cn]; omega
theorem Item.mks_len : ∀ (l : List Item) (k : Int), (Item.mks l k).length = l.length
  | [], _ => by rw [Item.mks]
  | a :: l, k => by rw [Item.mks, List.length_cons, List.length_cons, Item.mks_len l]
theorem Item.css_app (d : List Item) (a : Item) (R : List (List V)) : Item.css d ++ a.cells :: R = Item.css (d ++ [a]) ++ R := by
  induction d with
  | nil => rw [Item.css, List.nil_append, List.nil_append, Item.css, Item.cs_eq, Item.css]; rfl
  | cons b d ih => rw [Item.css, List.cons_append, List.cons_append, Item.css, ih]; rfl
theorem markValS_ok (l : List Val) (k : Int) (h0 : 0 ≤ k) (hb : k + ((Val.cns l : Nat) : Int) ≤ 4611686018427387904) (IH : ∀ a ∈ l, ∀ k : Int, 0 ≤ k → k + ((Item.cns a.items : Nat) : Int) ≤ 4611686018427387904 → Fn Tryd.prog [] 56 [.hdr 0 [], .sc (.int .i64 k)] [⟨Item.css a.items, true, 2, false⟩] (ret [.sc (.int .i64 (k + ((Item.cns a.items : Nat) : Int)))] [⟨Item.css (Item.mks a.items k), true, 2, false⟩])) : Fn Tryd.prog [] 84 [.hdr 0 [], .sc (.int .i64 k)] [⟨Val.css l, true, 4, false⟩] (ret [.sc (.int .i64 (k + ((Val.cns l : Nat) : Int)))] [⟨Val.css (Val.mks l k), true, 4, false⟩]) := by
  have hl : l.length ≤ 4611686018427387904 := by have := Val.cns_ge l; omega
  generalize hF : Val.mks l k = F
  generalize hK : k + ((Val.cns l : Nat) : Int) = K at *
  refine fn_of Tryd.func84 (by kernel_rfl) ?_
  conv => whnf
  refine loop_of (A := List Val × List Val × Int) (eM 4 44 Val.css) (fun x => x.2.1.length) (fun x => x.1 ++ Val.mks x.2.1 x.2.2 = F ∧ x.2.2 + ((Val.cns x.2.1 : Nat) : Int) = K ∧ 0 ≤ x.2.2 ∧ x.1.length + x.2.1.length ≤ 4611686018427387904 ∧ ∀ y ∈ x.2.1, y ∈ l) ([], l, k) rfl ⟨hF, hK, h0, by simpa using hl, fun y hy => hy⟩ ?_
  clear hF hK h0 hl
  intro ⟨d, r, k⟩ ⟨h1, h2, h3, h4, h5⟩ X ih
  dsimp only at h1 h2 h3 h4 h5
  cases r with
  | nil =>
    have h6 : d = F := by rw [← h1]; simp [Val.mks]
    rw [eM_eq, show Val.css [] = [] from rfl, List.append_nil]
    subst h6
    generalize Val.css d = D at *
    conv => whnf
    refine ifP_of (fun c1 => ?_) (fun c1 => ?_)
    · have := of_decide_eq_true c1; omega
    · conv => whnf
      exact ⟨il' (by rw [← h2]; simp [Val.cns]), rfl⟩
  | cons a r =>
    rw [show Val.cns (a :: r) = a.cn + Val.cns r from by rw [Val.cns]] at h2
    rw [List.length_cons] at h4
    have fin := ih (d ++ [(a.mk' k)], r, k + ((a.cn : Nat) : Int)) ⟨by dsimp only; rw [← h1, Val.mks, List.append_assoc]; rfl, by dsimp only; omega, by dsimp only; omega, by dsimp only; rw [List.length_append, List.length_singleton]; omega, fun y hy => h5 y (List.mem_cons_of_mem _ hy)⟩ (by dsimp only; rw [List.length_cons]; omega)
    rw [eM_eq, ← Val.css_app] at fin
    rw [show ((Val.css (d ++ [(a.mk' k)])).length : Nat) = (Val.css d).length + 1 by rw [Val.css_len, Val.css_len, List.length_append]; rfl] at fin
    rw [eM_eq]
    have hlen : (Val.css d).length = d.length := Val.css_len _
    have hw2 := hwn (n := (Val.css d).length) (by omega)
    clear ih h1
    obtain ⟨n, text, items, unk⟩ := a
    have hcn : Val.cn ⟨n, text, items, unk⟩ = 1 + 1 + Item.cns items + unk.length := by rw [Val.cn]
    rw [hcn] at h2
    rw [show k + ((Val.cn ⟨n, text, items, unk⟩ : Nat) : Int) = k + 1 + 1 + ((Item.cns items : Nat) : Int) + ((unk.length : Nat) : Int) from by rw [hcn]; omega, show Val.mk' ⟨n, text, items, unk⟩ k = ⟨k, txtM (k + 1), Item.mks items (k + 1 + 1), byteM unk (k + 1 + 1 + ((Item.cns items : Nat) : Int))⟩ from by rw [Val.mk']] at fin
    have IHa := IH _ (h5 _ (List.mem_cons_self ..))
    dsimp only at IHa
    generalize Val.css d = D at *
    rw [show Val.css (⟨n, text, items, unk⟩ :: r) = Val.cells ⟨n, text, items, unk⟩ :: Val.css r from Val.css_cons ..]
    generalize Val.css r = R at *
    conv => whnf
    refine ifP_yes lenl ?_
    conv => whnf
    repeat' (first
      | (refine optP_of (gset _) ?_; (conv => whnf))
      | (refine Fn.use (markText_ok (k + 1) (by omega) (by omega)) ?_; (conv => whnf); (first | refine ⟨trivial, ?_⟩ | refine ⟨⟨rfl, clr_of rfl⟩, ?_⟩); (conv => whnf))
      | (refine Fn.use (IHa (k + 1 + 1) (by omega) (by omega)) ?_; (conv => whnf); (first | refine ⟨trivial, ?_⟩ | refine ⟨⟨rfl, clr_of rfl⟩, ?_⟩); (conv => whnf))
      | (refine Fn.use (markByteS_ok unk (k + 1 + 1 + ((Item.cns items : Nat) : Int)) (by omega) (by omega)) ?_; (conv => whnf); (first | refine ⟨trivial, ?_⟩ | refine ⟨⟨rfl, clr_of rfl⟩, ?_⟩); (conv => whnf))
      | rw [pset]
      | rw [hwk (k := k) (by omega) (by omega)]
      | rw [hwk (k := k + 1) (by omega) (by omega)]
      | rw [hw2])
    exact fin
theorem markItemS_ok (l : List Item) (k : Int) (h0 : 0 ≤ k) (hb : k + ((Item.cns l : Nat) : Int) ≤ 4611686018427387904) (IH : ∀ a ∈ l, ∀ k : Int, 0 ≤ k → k + ((Val.cns a.vals : Nat) : Int) ≤ 4611686018427387904 → Fn Tryd.prog [] 84 [.hdr 0 [], .sc (.int .i64 k)] [⟨Val.css a.vals, true, 4, false⟩] (ret [.sc (.int .i64 (k + ((Val.cns a.vals : Nat) : Int)))] [⟨Val.css (Val.mks a.vals k), true, 4, false⟩])) : Fn Tryd.prog [] 56 [.hdr 0 [], .sc (.int .i64 k)] [⟨Item.css l, true, 2, false⟩] (ret [.sc (.int .i64 (k + ((Item.cns l : Nat) : Int)))] [⟨Item.css (Item.mks l k), true, 2, false⟩]) := by
  have hl : l.length ≤ 4611686018427387904 := by have := Item.cns_ge l; omega
  generalize hF : Item.mks l k = F
  generalize hK : k + ((Item.cns l : Nat) : Int) = K at *
  refine fn_of Tryd.func56 (by kernel_rfl) ?_
  conv => whnf
  refine loop_of (A := List Item × List Item × Int) (eM 2 27 Item.css) (fun x => x.2.1.length) (fun x => x.1 ++ Item.mks x.2.1 x.2.2 = F ∧ x.2.2 + ((Item.cns x.2.1 : Nat) : Int) = K ∧ 0 ≤ x.2.2 ∧ x.1.length + x.2.1.length ≤ 4611686018427387904 ∧ ∀ y ∈ x.2.1, y ∈ l) ([], l, k) rfl ⟨hF, hK, h0, by simpa using hl, fun y hy => hy⟩ ?_
  clear hF hK h0 hl
  intro ⟨d, r, k⟩ ⟨h1, h2, h3, h4, h5⟩ X ih
  dsimp only at h1 h2 h3 h4 h5
  cases r with
  | nil =>
    have h6 : d = F := by rw [← h1]; simp [Item.mks]
    rw [eM_eq, show Item.css [] = [] from rfl, List.append_nil]
    subst h6
    generalize Item.css d = D at *
    conv => whnf
    refine ifP_of (fun c1 => ?_) (fun c1 => ?_)
    · have := of_decide_eq_true c1; omega
    · conv => whnf
      exact ⟨il' (by rw [← h2]; simp [Item.cns]), rfl⟩
  | cons a r =>
    rw [show Item.cns (a :: r) = a.cn + Item.cns r from by rw [Item.cns]] at h2
    rw [List.length_cons] at h4
    have fin := ih (d ++ [(a.mk' k)], r, k + ((a.cn : Nat) : Int)) ⟨by dsimp only; rw [← h1, Item.mks, List.append_assoc]; rfl, by dsimp only; omega, by dsimp only; omega, by dsimp only; rw [List.length_append, List.length_singleton]; omega, fun y hy => h5 y (List.mem_cons_of_mem _ hy)⟩ (by dsimp only; rw [List.length_cons]; omega)
    rw [eM_eq, ← Item.css_app] at fin
    rw [show ((Item.css (d ++ [(a.mk' k)])).length : Nat) = (Item.css d).length + 1 by rw [Item.css_len, Item.css_len, List.length_append]; rfl] at fin
    rw [eM_eq]
    have hlen : (Item.css d).length = d.length := Item.css_len _
    have hw2 := hwn (n := (Item.css d).length) (by omega)
    clear ih h1
    obtain ⟨num, vals⟩ := a
    have hcn : Item.cn ⟨num, vals⟩ = 1 + Val.cns vals := by rw [Item.cn]
    rw [hcn] at h2
    rw [show k + ((Item.cn ⟨num, vals⟩ : Nat) : Int) = k + 1 + ((Val.cns vals : Nat) : Int) from by rw [hcn]; omega, show Item.mk' ⟨num, vals⟩ k = ⟨k, Val.mks vals (k + 1)⟩ from by rw [Item.mk']] at fin
    have IHa := IH _ (h5 _ (List.mem_cons_self ..))
    dsimp only at IHa
    generalize Item.css d = D at *
    rw [show Item.css (⟨num, vals⟩ :: r) = Item.cells ⟨num, vals⟩ :: Item.css r from Item.css_cons ..]
    generalize Item.css r = R at *
    conv => whnf
    refine ifP_yes lenl ?_
    conv => whnf
    repeat' (first
      | (refine optP_of (gset _) ?_; (conv => whnf))
      | (refine Fn.use (IHa (k + 1) (by omega) (by omega)) ?_; (conv => whnf); (first | refine ⟨trivial, ?_⟩ | refine ⟨⟨rfl, clr_of rfl⟩, ?_⟩); (conv => whnf))
      | rw [pset]
      | rw [hwk (k := k) (by omega) (by omega)]
      | rw [hw2])
    exact fin
theorem markItemS_rec : ∀ (n : Nat) (l : List Item), sizeOf l < n → ∀ k : Int, 0 ≤ k → k + ((Item.cns l : Nat) : Int) ≤ 4611686018427387904 → Fn Tryd.prog [] 56 [.hdr 0 [], .sc (.int .i64 k)] [⟨Item.css l, true, 2, false⟩] (ret [.sc (.int .i64 (k + ((Item.cns l : Nat) : Int)))] [⟨Item.css (Item.mks l k), true, 2, false⟩])
  | 0, l, hn, _, _, _ => by omega
  | n + 1, l, hn, k, h0, h1 => markItemS_ok l k h0 h1 (fun a ha k h0 h1 => markValS_ok a.vals k h0 h1 (fun b hb k h0 h1 => markItemS_rec n b.items (by
      have h2 := List.sizeOf_lt_of_mem ha
      have h3 := List.sizeOf_lt_of_mem hb
      obtain ⟨num, vals⟩ := a
      obtain ⟨m, text, items, unk⟩ := b
      have e1 := Item.mk.sizeOf_spec num vals
      have e2 := Val.mk.sizeOf_spec m text items unk
      dsimp only at *
      omega) k h0 h1))
theorem markItemS_all (l : List Item) (k : Int) (h0 : 0 ≤ k) (h1 : k + ((Item.cns l : Nat) : Int) ≤ 4611686018427387904) : Fn Tryd.prog [] 56 [.hdr 0 [], .sc (.int .i64 k)] [⟨Item.css l, true, 2, false⟩] (ret [.sc (.int .i64 (k + ((Item.cns l : Nat) : Int)))] [⟨Item.css (Item.mks l k), true, 2, false⟩]) := markItemS_rec _ l (Nat.lt_succ_self _) k h0 h1
theorem Item.cns_w : ∀ (n : Nat) (l : List Item), sizeOf l < n → Item.cns l ≤ 2 * Item.ws l
  | 0, l, h => absurd h (Nat.not_lt_zero _)
  | n + 1, [], _ => by rw [Item.cns]; exact Nat.zero_le _
  | n + 1, ⟨num, vals⟩ :: l, h => by
    have e0 := List.cons.sizeOf_spec (Item.mk num vals) l
    have e1 := Item.mk.sizeOf_spec num vals
    have h1 := Item.cns_w n l (by omega)
    have key : ∀ vs : List Val, sizeOf vs ≤ sizeOf vals → Val.cns vs ≤ 2 * Val.ws vs := by
      intro vs
      induction vs with
      | nil => intro _; rw [Val.cns]; exact Nat.zero_le _
      | cons v vs ih =>
        intro hs
        obtain ⟨m, text, items, unk⟩ := v
        have e2 := List.cons.sizeOf_spec (Val.mk m text items unk) vs
        have e3 := Val.mk.sizeOf_spec m text items unk
        have h2 := ih (by omega)
        have h3 := Item.cns_w n items (by omega)
        unfold Val.ws Item.ws at *
        rw [Val.cns, Val.cn, Val.ss, Val.w, List.length_cons]
        omega
    have h2 := key vals (Nat.le_refl _)
    unfold Val.ws Item.ws at *
    rw [Item.cns, Item.cn, Item.ss, Item.w, List.length_cons]
    omega
theorem Msg.cn_w (a : Msg) : a.cn ≤ 2 * a.w := by
  obtain ⟨items, unk⟩ := a
  have := Item.cns_w _ items (Nat.lt_succ_self _)
  show Item.cns items + unk.length ≤ 2 * (Item.ws items + unk.length)
  omega
theorem markMsg_ok (a : Msg) (k : Int) (h0 : 0 ≤ k) (h1 : k + ((a.cn : Nat) : Int) ≤ 4611686018427387904) : Fn Tryd.prog [] 31 [.agg [.hdr 0 [(0, 0)], .hdr 0 [(0, 1)]], .sc (.int .i64 k)] [⟨[a.ocells], true, 2, true⟩] (ret [.sc (.int .i64 (k + ((a.cn : Nat) : Int)))] [⟨[(a.mk' k).ocells], true, 2, true⟩]) := by
  obtain ⟨items, unk⟩ := a
  have h1 : k + ((Item.cns items + unk.length : Nat) : Int) ≤ 4611686018427387904 := h1
  have H1 := markItemS_all items k h0 (by omega)
  have H2 := markByteS_ok unk (k + ((Item.cns items : Nat) : Int)) (by omega) (by omega)
  refine fn_of Tryd.func31 (by kernel_rfl) ?_
  conv => whnf
  refine Fn.use (H1) ?_
  conv => whnf
  first | refine ⟨trivial, ?_⟩ | refine ⟨⟨rfl, clr_of rfl⟩, ?_⟩
  conv => whnf
  refine Fn.use (H2) ?_
  conv => whnf
  first | refine ⟨trivial, ?_⟩ | refine ⟨⟨rfl, clr_of rfl⟩, ?_⟩
  conv => whnf
  exact ⟨il' (by show _ = k + ((Item.cns items + unk.length : Nat) : Int); omega), rfl⟩
end Ev
open Go Ev
open Go.Proofs
set_option maxRecDepth 100000
set_option maxHeartbeats 4000000
set_option linter.unusedVariables false
namespace Ev
theorem markMsgV_ok (a : Val) (k : Int) (h0 : 0 ≤ k) (h1 : k + ((a.sub.cn : Nat) : Int) ≤ 4611686018427387904) : Fn Tryd.prog [] 31 [.agg [.hdr 0 [(0, 2)], .hdr 0 [(0, 3)]], .sc (.int .i64 k)] [⟨[a.ocells], true, 4, true⟩] (ret [.sc (.int .i64 (k + ((a.sub.cn : Nat) : Int)))] [⟨[[.sc (.int .i64 a.n), .sc (.string a.text)] ++ (a.sub.mk' k).ocells], true, 4, true⟩]) := by
  obtain ⟨n, text, items, unk⟩ := a
  have h1 : k + ((Item.cns items + unk.length : Nat) : Int) ≤ 4611686018427387904 := h1
  have H1 := markItemS_all items k h0 (by omega)
  have H2 := markByteS_ok unk (k + ((Item.cns items : Nat) : Int)) (by omega) (by omega)
  refine fn_of Tryd.func31 (by kernel_rfl) ?_
  conv => whnf
  refine Fn.use (H1) ?_
  conv => whnf
  first | refine ⟨trivial, ?_⟩ | refine ⟨⟨rfl, clr_of rfl⟩, ?_⟩
  conv => whnf
  refine Fn.use (H2) ?_
  conv => whnf
  first | refine ⟨trivial, ?_⟩ | refine ⟨⟨rfl, clr_of rfl⟩, ?_⟩
  conv => whnf
  exact ⟨il' (by show _ = k + ((Item.cns items + unk.length : Nat) : Int); omega), rfl⟩
theorem markVal_ok (a : Val) (k : Int) (h0 : 0 ≤ k) (h1 : k + ((a.sub.cn : Nat) : Int) ≤ 4611686018427387904) : Fn Tryd.prog [] 11 [.agg [.sc (.int .i64 a.n), .sc (.string a.text), .hdr 0 [(0, 2)], .hdr 0 [(0, 3)]], .sc (.int .i64 k)] [⟨[a.ocells], true, 4, true⟩] (ret [.sc (.int .i64 (k + ((a.sub.cn : Nat) : Int)))] [⟨[[.sc (.int .i64 a.n), .sc (.string a.text)] ++ (a.sub.mk' k).ocells], true, 4, true⟩]) := by
  have H := markMsgV_ok a k h0 h1
  obtain ⟨n, text, items, unk⟩ := a
  refine fn_of Tryd.func11 (by kernel_rfl) ?_
  conv => whnf
  refine Fn.use (H) ?_
  conv => whnf
  first | refine ⟨trivial, ?_⟩ | refine ⟨⟨rfl, clr_of rfl⟩, ?_⟩
  conv => whnf
  exact ⟨rfl, rfl⟩
end Ev
