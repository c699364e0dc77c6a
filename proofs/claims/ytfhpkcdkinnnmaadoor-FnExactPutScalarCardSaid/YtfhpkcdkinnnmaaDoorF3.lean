/- The library's utf8.ValidString at this program: its contract's numbers, field by field. Conditions: none. -/
import Derived.Shelf.Unicode.ValidAny
import Derived.Test.YtfhpkcdkinnnmaaDoorProg
import Derived.Lib.ValidLaws
import Derived.Laws.RangeAny
import Derived.WalkKit
import Derived.WalkMore
import Derived.BigCall
import Derived.Lib.OthersKept
import Derived.Lib.TrimU
import Derived.Below
namespace Go.Proofs.YtfhpkcdkinnnmaaDoor
open Go.Shelf
def Tryd.laysValid_ren : Go.Shelf.Ren := ⟨fun | 196 => 82 | 259 => 99 | n => n, fun | 9 => 9 | 4 => 4 | 3 => 3 | 5 => 5 | 12 => 12 | 119 => 139 | 0 => 0 | 46 => 92 | 139 => 142 | 138 => 141 | 53 => 88 | n => n, fun | 3 => 0 | 4 => 1 | n => n⟩
theorem Tryd.laysValid : Go.Proofs.Lays.n196 Tryd.prog Tryd.laysValid_ren := {
  mixed := by kernel_rfl
  f196 := Tryd.func82.trans (congrArg some (by kernel_rfl))
  f259 := Tryd.func99.trans (congrArg some (by kernel_rfl))
  t0 := Tryd.underlying0
  a0 := Tryd.isAgg0
  z0 := Tryd.sizeOf0
  v0 := Tryd.zeroValue0
  t3 := Tryd.underlying3
  a3 := Tryd.isAgg3
  z3 := Tryd.sizeOf3
  v3 := Tryd.zeroValue3
  t4 := Tryd.underlying4
  a4 := Tryd.isAgg4
  z4 := Tryd.sizeOf4
  v4 := Tryd.zeroValue4
  t5 := Tryd.underlying5
  a5 := Tryd.isAgg5
  z5 := Tryd.sizeOf5
  v5 := Tryd.zeroValue5
  t9 := Tryd.underlying9
  a9 := Tryd.isAgg9
  z9 := Tryd.sizeOf9
  v9 := Tryd.zeroValue9
  t12 := Tryd.underlying12
  a12 := Tryd.isAgg12
  z12 := Tryd.sizeOf12
  v12 := Tryd.zeroValue12
  t46 := Tryd.underlying92
  a46 := Tryd.isAgg92
  z46 := Tryd.sizeOf92
  v46 := Tryd.zeroValue92
  t53 := Tryd.underlying88
  a53 := Tryd.isAgg88
  z53 := Tryd.sizeOf88
  v53 := Tryd.zeroValue88
  t119 := Tryd.underlying139
  a119 := Tryd.isAgg139
  z119 := Tryd.sizeOf139
  t138 := Tryd.underlying141
  a138 := Tryd.isAgg141
  z138 := Tryd.sizeOf141
  v138 := Tryd.zeroValue141
  t139 := Tryd.underlying142
  a139 := Tryd.isAgg142
  z139 := Tryd.sizeOf142
  v139 := Tryd.zeroValue142
  g3 := by kernel_rfl
  g4 := by kernel_rfl }
end Go.Proofs.YtfhpkcdkinnnmaaDoor
namespace Go.Proofs.YtfhpkcdkinnnmaaDoor.Utf
open Go Go.Lib

/-- The three bytes of U+FFFD stand at a place. -/
def isFFFD (s : ByteArray) (pos : Nat) : Prop := pos + 2 < s.size ∧ (s.get! pos).toNat = 239 ∧ (s.get! (pos + 1)).toNat = 191 ∧ (s.get! (pos + 2)).toNat = 189
instance (s : ByteArray) (pos : Nat) : Decidable (isFFFD s pos) := by unfold isFFFD; infer_instance
theorem fffd_iff (n b0 b1 b2 b3 : Nat) (h0 : b0 < 256) (_ : b1 < 256) (_ : b2 < 256) : (decodeN n b0 b1 b2 b3).1 = 65533 → ((decodeN n b0 b1 b2 b3).2 = 1 ↔ ¬ (2 < n ∧ b0 = 239 ∧ b1 = 191 ∧ b2 = 189)) := by
  unfold decodeN
  repeat' split
  all_goals intro h
  all_goals simp only [] at h ⊢
  all_goals refine ⟨fun g => ?_, fun g => ?_⟩
  all_goals first | omega | (rintro ⟨g1, g2, g3, g4⟩; omega)
theorem fffd (s : ByteArray) (pos : Nat) (h : (Utf8.decode s pos).1 = 65533) : (Utf8.decode s pos).2 = 1 ↔ ¬ isFFFD s pos := by
  rw [decode_at] at h ⊢
  have := fffd_iff _ _ _ _ _ (UInt8.toNat_lt (s.get! pos)) (UInt8.toNat_lt (s.get! (pos + 1))) (UInt8.toNat_lt (s.get! (pos + 2))) h
  rw [this]
  unfold isFFFD
  have e : (2 < s.size - pos) ↔ (pos + 2 < s.size) := by omega
  rw [e]
/-- What the reference's loop tells from a place on. -/
def okFrom (s : ByteArray) : Nat → Nat → Bool
  | 0, _ => true
  | f + 1, pos => if pos < s.size then (if (Utf8.decode s pos).1 = 65533 ∧ ¬ isFFFD s pos then false else okFrom s f (pos + (Utf8.decode s pos).2)) else true
theorem okFrom_end (s : ByteArray) (f pos : Nat) (h : ¬ pos < s.size) : okFrom s f pos = true := by
  cases f with
  | zero => rfl
  | succ f => unfold okFrom; rw [if_neg h]
theorem okFrom_valid (s : ByteArray) : ∀ (f pos : Nat), s.size ≤ pos + f → okFrom s f pos = validD (s.data.toList.drop pos) := by
  have hl : s.data.toList.length = s.size := (size_eq s).symm
  intro f
  induction f with
  | zero =>
    intro pos h
    rw [List.drop_eq_nil_of_le (by omega)]; rfl
  | succ f ih =>
    intro pos h
    unfold okFrom
    by_cases hp : pos < s.size
    · have hne : s.data.toList.drop pos ≠ [] := by
        intro he
        have := congrArg List.length he
        rw [List.length_drop, List.length_nil] at this
        omega
      have hw := width_pos s pos
      rw [if_pos hp, validD_step _ hne, decodeL_drop, List.drop_drop, ih (pos + (Utf8.decode s pos).2) (by omega)]
      by_cases h5 : (Utf8.decode s pos).1 = 65533
      · have hf := fffd s pos h5
        by_cases h1 : (Utf8.decode s pos).2 = 1
        · rw [if_pos ⟨h5, hf.mp h1⟩, if_pos ⟨h5, h1⟩]
        · rw [if_neg (fun e => h1 (hf.mpr e.2)), if_neg (fun e => h1 e.2)]
      · rw [if_neg (fun e => h5 e.1), if_neg (fun e => h5 e.1)]
    · rw [if_neg hp, List.drop_eq_nil_of_le (by omega)]; rfl
end Go.Proofs.YtfhpkcdkinnnmaaDoor.Utf
namespace Go.Proofs.YtfhpkcdkinnnmaaDoor
open Go Go.RowKit Go.Shelf Go.Lib Go.Proofs.YtfhpkcdkinnnmaaDoor.Utf

theorem get!_lt (s : ByteArray) (i : Nat) (h : i < s.size) : s.get! i = s[i]'h := by
  cases s with
  | mk d => exact getElem!_pos d i h
set_option maxHeartbeats 4000000 in
set_option maxRecDepth 1000000 in
theorem spec_walk (s : ByteArray) (w : World) (hs : s.size ≤ 1048576) :
    Calls Tryd.prog 48 #[.string s] w fun e w' => e = .returned (.bool (okFrom s s.size 0)) ∧ Below w.heap.size w w' := by
  go_enter Tryd.func48, Tryd.ntmps48
  go_wp2
  go_loopw [3, 4] (fun _ _ wr => ∃ (pos fuel : Nat), wr.heap[w.heap.size]? = some (.stringIter s pos) ∧ Below w.heap.size w wr ∧ okFrom s fuel pos = okFrom s s.size 0 ∧ s.size ≤ pos + fuel) (fun _ _ wr => s.size - wr.iterPos w.heap.size)
  case atStart =>
    refine ⟨0, s.size, ?_, (Below.refl _ w).alloc (Nat.le_refl _) _, rfl, by omega⟩
    have := World.iter_heap w s 0
    simpa using this
  case round =>
    obtain ⟨pos, fuel, hit, hbw, hok, hfu⟩ := hrel
    have hsz : w.heap.size < wr.heap.size := (Array.getElem?_eq_some_iff.1 hit).1
    by_cases hp : pos < s.size
    · have hnx : ∀ ty, (Instr.next (.pointer (some ⟨w.heap.size, 0, none⟩)) true ty).run Tryd.prog wr = _ := fun ty => Lib.run_next_any_at wr w.heap.size s pos ty hit hp
      have hwd := Lib.width_pos s pos
      have hd1 := decode_le s pos
      have hit2 := Lib.iterAt_heap wr w.heap.size s pos (pos + (Utf8.decode s pos).2) hit
      have hbw2 := Lib.below_iterAt hbw (k := w.heap.size) (Nat.le_refl _) s (pos + (Utf8.decode s pos).2)
      obtain ⟨f, rfl⟩ : ∃ f, fuel = f + 1 := ⟨fuel - 1, by omega⟩
      have hstep : okFrom s (f + 1) pos = if (Utf8.decode s pos).1 = 65533 ∧ ¬ isFFFD s pos then false else okFrom s f (pos + (Utf8.decode s pos).2) := by
        show (if pos < s.size then _ else _) = _
        rw [if_pos hp]
      by_cases h5 : (Utf8.decode s pos).1 = 65533
      · have h5i : (((Utf8.decode s pos).1 : Nat) : Int) = 65533 := by omega
        have hw2 : wrap64 ((pos : Int) + 2) = (pos : Int) + 2 := by unfold wrap64; omega
        have hw1 : wrap64 ((pos : Int) + 1) = (pos : Int) + 1 := by unfold wrap64; omega
        by_cases h2 : pos + 2 < s.size
        · have h2i : ¬ ((s.size : Int) ≤ (pos : Int) + 2) := by omega
          have g0 : (s.get! pos).toNat = (s[pos]'hp).toNat := by rw [get!_lt s pos hp]
          have g1 : (s.get! (pos + 1)).toNat = (s[pos + 1]'(by omega)).toNat := by rw [get!_lt s (pos + 1) (by omega)]
          have g2 : (s.get! (pos + 2)).toNat = (s[pos + 2]'h2).toNat := by rw [get!_lt s (pos + 2) h2]
          by_cases b0 : (s[pos]'hp).toNat = 239
          · have b0i : (((s[pos]'hp).toNat : Nat) : Int) = 239 := by omega
            by_cases b1 : (s[pos + 1]'(by omega)).toNat = 191
            · have b1i : (((s[pos + 1]'(by omega)).toNat : Nat) : Int) = 191 := by omega
              by_cases b2 : (s[pos + 2]'h2).toNat = 189
              · have b2i : (((s[pos + 2]'h2).toNat : Nat) : Int) = 189 := by omega
                have hF : isFFFD s pos := ⟨h2, g0.trans b0, g1.trans b1, g2.trans b2⟩
                rw [if_neg (fun e => e.2 hF)] at hstep
                go_wp2
                go_roundw
                case rel => exact ⟨pos + (Utf8.decode s pos).2, f, hit2, hbw2, by rw [← hok, hstep], by omega⟩
                case measure =>
                  simp only [World.iterPos, hit2, hit]
                  omega
              · have b2i : ¬ (((s[pos + 2]'h2).toNat : Nat) : Int) = 189 := by omega
                have hF : ¬ isFFFD s pos := fun e => b2 (g2.symm.trans e.2.2.2)
                go_wp2
                go_ret
                rw [← hok, hstep, if_pos ⟨h5, hF⟩]
                exact ⟨rfl, hbw2⟩
            · have b1i : ¬ (((s[pos + 1]'(by omega)).toNat : Nat) : Int) = 191 := by omega
              have hF : ¬ isFFFD s pos := fun e => b1 (g1.symm.trans e.2.2.1)
              go_wp2
              go_ret
              rw [← hok, hstep, if_pos ⟨h5, hF⟩]
              exact ⟨rfl, hbw2⟩
          · have b0i : ¬ (((s[pos]'hp).toNat : Nat) : Int) = 239 := by omega
            have hF : ¬ isFFFD s pos := fun e => b0 (g0.symm.trans e.2.1)
            go_wp2
            go_ret
            rw [← hok, hstep, if_pos ⟨h5, hF⟩]
            exact ⟨rfl, hbw2⟩
        · have h2i : ((s.size : Int) ≤ (pos : Int) + 2) := by omega
          have hF : ¬ isFFFD s pos := fun e => h2 e.1
          go_wp2
          go_ret
          rw [← hok, hstep, if_pos ⟨h5, hF⟩]
          exact ⟨rfl, hbw2⟩
      · have h5i : ¬ (((Utf8.decode s pos).1 : Nat) : Int) = 65533 := by omega
        rw [if_neg (fun e => h5 e.1)] at hstep
        go_wp2
        go_roundw
        case rel =>
          exact ⟨pos + (Utf8.decode s pos).2, f, hit2, hbw2, by rw [← hok, hstep], by omega⟩
        case measure =>
          simp only [World.iterPos, hit2, hit]
          omega
    · have hnx : ∀ ty, (Instr.next (.pointer (some ⟨w.heap.size, 0, none⟩)) true ty).run Tryd.prog wr = _ := fun ty => Lib.run_next_end_at wr w.heap.size s pos ty hit hp
      go_wp2
      go_ret
      rw [okFrom_end s fuel pos hp] at hok
      rw [← hok]
      exact ⟨rfl, hbw⟩
def Tabs (w : World) : Prop := Lib.Utf8Tabs (Tryd.laysValid_ren.g 3) (Tryd.laysValid_ren.g 4) w

set_option maxHeartbeats 4000000 in
set_option maxRecDepth 1000000 in
theorem impl_walk (s : ByteArray) (w : World) (hs : s.size ≤ 1048576) (hT : Tabs w) :
    Calls Tryd.prog 52 #[.string s] w fun e w' => e = .returned (.bool (okFrom s s.size 0)) ∧ Below w.heap.size w w' := by
  have cV : Calls Tryd.prog 82 #[.string s] w _ := Any.utf8_ValidString Tryd.laysValid s w (by omega) hT
  have hv : okFrom s s.size 0 = Lib.validD s.data.toList := by rw [okFrom_valid s s.size 0 (by omega), List.drop_zero]
  rw [hv]
  generalize Lib.validD s.data.toList = V at cV ⊢
  go_enter Tryd.func52, Tryd.ntmps52
  go_wp2_with (go_at_call 82; refine cV.mono ?_; rintro e w' ⟨rfl, hb⟩)
  go_ret
  exact ⟨rfl, hb⟩

end Go.Proofs.YtfhpkcdkinnnmaaDoor
