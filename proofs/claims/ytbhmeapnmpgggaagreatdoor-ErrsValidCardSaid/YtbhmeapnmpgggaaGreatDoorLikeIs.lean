/- slices.Contains of int64s, the method Is of a like: the walks. Condition: the codes lie in the world. -/
import Derived.Test.YtbhmeapnmpgggaaGreatDoorWalk
import Derived.Deep.RegionHeld2
namespace Go.Proofs.YtbhmeapnmpgggaaGreatDoor
open Go.RowKit

def Idx (x : Int) (l : List Int) (w : World) (e : Ending) (w' : World) : Prop := ∃ z : Int, e = .returned (.int .i64 z) ∧ ((0 ≤ z) ↔ x ∈ l) ∧ w' = w

set_option maxHeartbeats 2000000 in
set_option maxRecDepth 100000 in
theorem index_any (l : List Int) (x : Int) (A : Option Addr) (c : Nat) (w : World) (hl : l.length ≤ 9223372036854775807) (hin : CodesIn w A l) :
    Calls Tryz.prog 222 #[.slice A l.length c, .int .i64 x] w (Idx x l w) := by
  have Hin := Lib.hid hin
  have hP : ∀ z : Int, ((0 ≤ z) ↔ x ∈ l) → Idx x l w (.returned (.int .i64 z)) w := fun z h => ⟨z, rfl, h, rfl⟩
  have HP := Lib.hid hP
  clear hin hP
  go_enter Tryz.func222, Tryz.ntmps222
  go_wp2_with fail
  go_loopg [8] l.length (fun g s wr => ∃ j : Nat, s = .int .i64 j ∧ j + g = l.length ∧ wr = w ∧ Hid (∀ q, q < j → l[q]? ≠ some x))
  case atStart => exact ⟨0, rfl, by omega, rfl, Lib.hid (fun q h => by omega)⟩
  case round =>
    obtain ⟨j, rfl, hj, rfl, hinv⟩ := hrel
    by_cases hlt : j < l.length
    · obtain ⟨y, ey⟩ : ∃ y, l[j]? = some y := ⟨_, List.getElem?_eq_getElem hlt⟩
      obtain ⟨ad, rfl, hc⟩ := Hin.out j y ey
      by_cases hxy : x = y
      · subst hxy
        have hq := Lib.hid (HP.out j ⟨fun _ => List.mem_of_getElem? ey, fun _ => by omega⟩)
        clear HP Hin hinv ey
        go_wp2_with fail
        go_ret
        exact hq.out
      · have hn := Lib.hid (show ∀ q, q < j + 1 → l[q]? ≠ some x from fun q hq => by
          by_cases h : q < j
          · exact hinv.out q h
          · have : q = j := by omega
            subst this
            rw [ey]
            simp
            exact fun h => hxy h.symm)
        clear HP Hin hinv ey
        go_wp2_with fail
        go_roundg (gk - 1)
        case measure => omega
        case rel => exact ⟨j + 1, by go_num, by omega, rfl, hn⟩
    · have hq := Lib.hid (HP.out (-1) ⟨fun h => by omega, fun h => by
        obtain ⟨q, hq, rfl⟩ := List.getElem_of_mem h
        exact absurd (List.getElem?_eq_getElem hq) (hinv.out q (by omega))⟩)
      clear HP Hin hinv
      go_wp2_with fail
      go_ret
      exact hq.out

set_option maxHeartbeats 2000000 in
set_option maxRecDepth 100000 in
theorem contains_any (l : List Int) (x : Int) (A : Option Addr) (c : Nat) (w : World) (hl : l.length ≤ 9223372036854775807) (hin : CodesIn w A l) :
    Calls Tryz.prog 221 #[.slice A l.length c, .int .i64 x] w fun e w' => e = .returned (.bool (decide (x ∈ l))) ∧ w' = w := by
  have h := Lib.hid (index_any l x A c w hl hin)
  clear hin hl
  go_enter Tryz.func221, Tryz.ntmps221
  go_wp2_with fail
  refine h.out.mono ?_
  rintro e w' ⟨z, rfl, hz, rfl⟩
  have Hz := Lib.hid hz
  clear hz h
  go_wp2_with fail
  go_ret
  refine ⟨?_, rfl⟩
  have := Hz.out
  by_cases hz : 0 ≤ z
  · rw [decide_eq_true (this.1 hz)]; simp [hz]
  · rw [decide_eq_false (fun h => hz (this.2 h))]; simp [hz]

theorem code1_any (k : Int) (t : ByteArray) (w : World) : Calls Tryz.prog 202 #[.agg #[.int .i64 k, .string t]] w fun e w' => e = .returned (.int .i64 k) ∧ Below w.heap.size w w' := by
  go_enter Tryz.func202, Tryz.ntmps202
  go_wp2_with fail
  go_ret
  exact ⟨rfl, (Below.refl _ _).alloc (Nat.le_refl _) _⟩
theorem code10_any (k : Int) (t : ByteArray) (w : World) : Calls Tryz.prog 226 #[.agg #[.int .i64 k, .string t]] w fun e w' => e = .returned (.int .i64 k) ∧ Below w.heap.size w w' := by
  go_enter Tryz.func226, Tryz.ntmps226
  go_wp2_with fail
  go_ret
  exact ⟨rfl, (Below.refl _ _).alloc (Nat.le_refl _) _⟩
end Go.Proofs.YtbhmeapnmpgggaaGreatDoor
