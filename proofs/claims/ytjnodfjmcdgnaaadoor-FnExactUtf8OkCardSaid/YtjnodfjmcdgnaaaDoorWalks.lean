/- Utf8Ok: the reference's loop, the library's ValidString and the law, walked. Conditions: none beyond the sizes of strings. -/
import Derived.Test.YtjnodfjmcdgnaaaDoorProg
import Derived.Test.YtjnodfjmcdgnaaaDoorUtf
import Derived.WalkKit
import Derived.WalkMore
import Derived.BigCall
import Derived.Lib.OthersKept
import Derived.Lib.TrimU
import Derived.Test.YtjnodfjmcdgnaaaDoorShelf
import Derived.Below
namespace Go.Proofs.YtjnodfjmcdgnaaaDoor
open Go Go.RowKit Go.Shelf Go.Lib Go.Proofs.YtjnodfjmcdgnaaaDoor.Utf

theorem get!_lt (s : ByteArray) (i : Nat) (h : i < s.size) : s.get! i = s[i]'h := by
  cases s with
  | mk d => exact getElem!_pos d i h
set_option maxHeartbeats 4000000 in
set_option maxRecDepth 1000000 in
theorem spec_walk (s : ByteArray) (w : World) (hs : s.size ≤ 1048576) :
    Calls Tryd.prog 4 #[.string s] w fun e w' => e = .returned (.bool (okFrom s s.size 0)) ∧ Below w.heap.size w w' := by
  go_enter Tryd.func4, Tryd.ntmps4
  go_wp2
  go_loopw [3, 4] (fun _ _ wr => ∃ (pos fuel : Nat), wr.heap[w.heap.size]? = some (.stringIter s pos) ∧ Below w.heap.size w wr ∧ okFrom s fuel pos = okFrom s s.size 0 ∧ s.size ≤ pos + fuel) (fun _ _ wr => s.size - wr.iterPos w.heap.size)
  case atStart =>
    refine ⟨0, s.size, ?_, (Below.refl _ w).alloc (Nat.le_refl _) _, rfl, by omega⟩
    have := World.iter_heap w s 0
    simpa using this
  case round =>
    obtain ⟨pos, fuel, hit, hbw, hok, hfu⟩ := hrel
    have hsz : w.heap.size < wr.heap.size := (Array.getElem?_eq_some_iff.1 hit).1
    by_cases hp : pos < s.size
    · have hnx : ∀ ty, (Instr.next (.pointer (some ⟨w.heap.size, 0, none⟩)) true ty).run Tryd.prog wr = _ := fun ty => Lib.run_next_any_at wr w.heap.size s pos ty hit hp
      have hwd := Lib.width_pos s pos
      have hd1 := decode_le s pos
      have hit2 := Lib.iterAt_heap wr w.heap.size s pos (pos + (Utf8.decode s pos).2) hit
      have hbw2 := Lib.below_iterAt hbw (k := w.heap.size) (Nat.le_refl _) s (pos + (Utf8.decode s pos).2)
      obtain ⟨f, rfl⟩ : ∃ f, fuel = f + 1 := ⟨fuel - 1, by omega⟩
      have hstep : okFrom s (f + 1) pos = if (Utf8.decode s pos).1 = 65533 ∧ ¬ isFFFD s pos then false else okFrom s f (pos + (Utf8.decode s pos).2) := by
        show (if pos < s.size then _ else _) = _
        rw [if_pos hp]
      by_cases h5 : (Utf8.decode s pos).1 = 65533
      · have h5i : (((Utf8.decode s pos).1 : Nat) : Int) = 65533 := by omega
        have hw2 : wrap64 ((pos : Int) + 2) = (pos : Int) + 2 := by unfold wrap64; omega
        have hw1 : wrap64 ((pos : Int) + 1) = (pos : Int) + 1 := by unfold wrap64; omega
        by_cases h2 : pos + 2 < s.size
        · have h2i : ¬ ((s.size : Int) ≤ (pos : Int) + 2) := by omega
          have g0 : (s.get! pos).toNat = (s[pos]'hp).toNat := by rw [get!_lt s pos hp]
          have g1 : (s.get! (pos + 1)).toNat = (s[pos + 1]'(by omega)).toNat := by rw [get!_lt s (pos + 1) (by omega)]
          have g2 : (s.get! (pos + 2)).toNat = (s[pos + 2]'h2).toNat := by rw [get!_lt s (pos + 2) h2]
          by_cases b0 : (s[pos]'hp).toNat = 239
          · have b0i : (((s[pos]'hp).toNat : Nat) : Int) = 239 := by omega
            by_cases b1 : (s[pos + 1]'(by omega)).toNat = 191
            · have b1i : (((s[pos + 1]'(by omega)).toNat : Nat) : Int) = 191 := by omega
              by_cases b2 : (s[pos + 2]'h2).toNat = 189
              · have b2i : (((s[pos + 2]'h2).toNat : Nat) : Int) = 189 := by omega
                have hF : isFFFD s pos := ⟨h2, g0.trans b0, g1.trans b1, g2.trans b2⟩
                rw [if_neg (fun e => e.2 hF)] at hstep
                go_wp2
                go_roundw
                case rel => exact ⟨pos + (Utf8.decode s pos).2, f, hit2, hbw2, by rw [← hok, hstep], by omega⟩
                case measure =>
                  simp only [World.iterPos, hit2, hit]
                  omega
              · have b2i : ¬ (((s[pos + 2]'h2).toNat : Nat) : Int) = 189 := by omega
                have hF : ¬ isFFFD s pos := fun e => b2 (g2.symm.trans e.2.2.2)
                go_wp2
                go_ret
                rw [← hok, hstep, if_pos ⟨h5, hF⟩]
                exact ⟨rfl, hbw2⟩
            · have b1i : ¬ (((s[pos + 1]'(by omega)).toNat : Nat) : Int) = 191 := by omega
              have hF : ¬ isFFFD s pos := fun e => b1 (g1.symm.trans e.2.2.1)
              go_wp2
              go_ret
              rw [← hok, hstep, if_pos ⟨h5, hF⟩]
              exact ⟨rfl, hbw2⟩
          · have b0i : ¬ (((s[pos]'hp).toNat : Nat) : Int) = 239 := by omega
            have hF : ¬ isFFFD s pos := fun e => b0 (g0.symm.trans e.2.1)
            go_wp2
            go_ret
            rw [← hok, hstep, if_pos ⟨h5, hF⟩]
            exact ⟨rfl, hbw2⟩
        · have h2i : ((s.size : Int) ≤ (pos : Int) + 2) := by omega
          have hF : ¬ isFFFD s pos := fun e => h2 e.1
          go_wp2
          go_ret
          rw [← hok, hstep, if_pos ⟨h5, hF⟩]
          exact ⟨rfl, hbw2⟩
      · have h5i : ¬ (((Utf8.decode s pos).1 : Nat) : Int) = 65533 := by omega
        rw [if_neg (fun e => h5 e.1)] at hstep
        go_wp2
        go_roundw
        case rel =>
          exact ⟨pos + (Utf8.decode s pos).2, f, hit2, hbw2, by rw [← hok, hstep], by omega⟩
        case measure =>
          simp only [World.iterPos, hit2, hit]
          omega
    · have hnx : ∀ ty, (Instr.next (.pointer (some ⟨w.heap.size, 0, none⟩)) true ty).run Tryd.prog wr = _ := fun ty => Lib.run_next_end_at wr w.heap.size s pos ty hit hp
      go_wp2
      go_ret
      rw [okFrom_end s fuel pos hp] at hok
      rw [← hok]
      exact ⟨rfl, hbw⟩
def Tabs (w : World) : Prop := Lib.Utf8Tabs (Tryd.laysValid_ren.g 3) (Tryd.laysValid_ren.g 4) w

set_option maxHeartbeats 4000000 in
set_option maxRecDepth 1000000 in
theorem impl_walk (s : ByteArray) (w : World) (hs : s.size ≤ 1048576) (hT : Tabs w) :
    Calls Tryd.prog 5 #[.string s] w fun e w' => e = .returned (.bool (okFrom s s.size 0)) ∧ Below w.heap.size w w' := by
  have cV : Calls Tryd.prog 6 #[.string s] w _ := Any.utf8_ValidString Tryd.laysValid s w (by omega) hT
  have hv : okFrom s s.size 0 = Lib.validD s.data.toList := by rw [okFrom_valid s s.size 0 (by omega), List.drop_zero]
  rw [hv]
  generalize Lib.validD s.data.toList = V at cV ⊢
  go_enter Tryd.func5, Tryd.ntmps5
  go_wp2_with (go_at_call 6; refine cV.mono ?_; rintro e w' ⟨rfl, hb⟩)
  go_ret
  exact ⟨rfl, hb⟩

set_option maxHeartbeats 4000000 in
set_option maxRecDepth 1000000 in
theorem law_walk (s : ByteArray) (w : World) (hs : s.size ≤ 9223372036854775807) (hT : Tabs w) :
    Calls Tryd.prog 3 #[.string s] w fun e w' => e = .returned (.bool true) ∧ Below w.heap.size w w' := by
  by_cases hg : (1048576 : Int) < (s.size : Int)
  · go_enter Tryd.func3, Tryd.ntmps3
    go_wp2
    go_ret
    exact ⟨rfl, Below.refl _ _⟩
  · go_enter Tryd.func3, Tryd.ntmps3
    go_wp2_with (first | (go_at_call 4; refine (spec_walk s _ (by omega)).mono ?_; rintro e w1 ⟨rfl, hb1⟩) | (go_at_call 5; refine (impl_walk s _ (by omega) (Utf8Tabs_below (show Lib.Utf8Tabs _ _ w from hT) hb1)).mono ?_; rintro e w2 ⟨rfl, hb2⟩))
    go_ret
    exact ⟨rfl, hb1.trans ⟨hb2.os, hb2.tape, hb2.output, hb2.size, fun i hi => hb2.block i (Nat.lt_of_lt_of_le hi hb1.size)⟩⟩
end Go.Proofs.YtjnodfjmcdgnaaaDoor
