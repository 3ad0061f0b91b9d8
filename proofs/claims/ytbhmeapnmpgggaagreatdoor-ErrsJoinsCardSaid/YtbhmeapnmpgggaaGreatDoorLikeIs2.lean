/- slices.Contains of int64s, the method Is of a like: the walks. Condition: the codes lie in the world. -/
import Derived.Test.YtbhmeapnmpgggaaGreatDoorWalk
import Derived.Deep.RegionHeld2
namespace Go.Proofs.YtbhmeapnmpgggaaGreatDoor
open Go.RowKit

def Idx (x : Int) (l : List Int) (w : World) (e : Ending) (w' : World) : Prop := ∃ z : Int, e = .returned (.int .i64 z) ∧ ((0 ≤ z) ↔ x ∈ l) ∧ w' = w

set_option maxHeartbeats 2000000 in
set_option maxRecDepth 100000 in
theorem index_any (l : List Int) (x : Int) (A : Option Addr) (c : Nat) (w : World) (hl : l.length ≤ 9223372036854775807) (hin : CodesIn w A l) :
    Calls Tryz.prog 222 #[.slice A l.length c, .int .i64 x] w (Idx x l w) := by
  have Hin := Lib.hid hin
  have hP : ∀ z : Int, ((0 ≤ z) ↔ x ∈ l) → Idx x l w (.returned (.int .i64 z)) w := fun z h => ⟨z, rfl, h, rfl⟩
  have HP := Lib.hid hP
  clear hin hP
  go_enter Tryz.func222, Tryz.ntmps222
  go_wp2_with fail
  go_loopg [8] l.length (fun g s wr => ∃ j : Nat, s = .int .i64 j ∧ j + g = l.length ∧ wr = w ∧ Hid (∀ q, q < j → l[q]? ≠ some x))
  case atStart => exact ⟨0, rfl, by omega, rfl, Lib.hid (fun q h => by omega)⟩
  case round =>
    obtain ⟨j, rfl, hj, rfl, hinv⟩ := hrel
    by_cases hlt : j < l.length
    · obtain ⟨y, ey⟩ : ∃ y, l[j]? = some y := ⟨_, List.getElem?_eq_getElem hlt⟩
      obtain ⟨ad, rfl, hc⟩ := Hin.out j y ey
      by_cases hxy : x = y
      · subst hxy
        have hq := Lib.hid (HP.out j ⟨fun _ => List.mem_of_getElem? ey, fun _ => by omega⟩)
        clear HP Hin hinv ey
        go_wp2_with fail
        go_ret
        exact hq.out
      · have hn := Lib.hid (show ∀ q, q < j + 1 → l[q]? ≠ some x from fun q hq => by
          by_cases h : q < j
          · exact hinv.out q h
          · have : q = j := by omega
            subst this
            rw [ey]
            simp
            exact fun h => hxy h.symm)
        clear HP Hin hinv ey
        go_wp2_with fail
        go_roundg (gk - 1)
        case measure => omega
        case rel => exact ⟨j + 1, by go_num, by omega, rfl, hn⟩
    · have hq := Lib.hid (HP.out (-1) ⟨fun h => by omega, fun h => by
        obtain ⟨q, hq, rfl⟩ := List.getElem_of_mem h
        exact absurd (List.getElem?_eq_getElem hq) (hinv.out q (by omega))⟩)
      clear HP Hin hinv
      go_wp2_with fail
      go_ret
      exact hq.out

set_option maxHeartbeats 2000000 in
set_option maxRecDepth 100000 in
theorem contains_any (l : List Int) (x : Int) (A : Option Addr) (c : Nat) (w : World) (hl : l.length ≤ 9223372036854775807) (hin : CodesIn w A l) :
    Calls Tryz.prog 221 #[.slice A l.length c, .int .i64 x] w fun e w' => e = .returned (.bool (decide (x ∈ l))) ∧ w' = w := by
  have h := Lib.hid (index_any l x A c w hl hin)
  clear hin hl
  go_enter Tryz.func221, Tryz.ntmps221
  go_wp2_with fail
  refine h.out.mono ?_
  rintro e w' ⟨z, rfl, hz, rfl⟩
  have Hz := Lib.hid hz
  clear hz h
  go_wp2_with fail
  go_ret
  refine ⟨?_, rfl⟩
  have := Hz.out
  by_cases hz : 0 ≤ z
  · rw [decide_eq_true (this.1 hz)]; simp [hz]
  · rw [decide_eq_false (fun h => hz (this.2 h))]; simp [hz]

theorem code1_any (k : Int) (t : ByteArray) (w : World) : Calls Tryz.prog 202 #[.agg #[.int .i64 k, .string t]] w fun e w' => e = .returned (.int .i64 k) ∧ Below w.heap.size w w' := by
  go_enter Tryz.func202, Tryz.ntmps202
  go_wp2_with fail
  go_ret
  exact ⟨rfl, (Below.refl _ _).alloc (Nat.le_refl _) _⟩
theorem code10_any (k : Int) (t : ByteArray) (w : World) : Calls Tryz.prog 226 #[.agg #[.int .i64 k, .string t]] w fun e w' => e = .returned (.int .i64 k) ∧ Below w.heap.size w w' := by
  go_enter Tryz.func226, Tryz.ntmps226
  go_wp2_with fail
  go_ret
  exact ⟨rfl, (Below.refl _ _).alloc (Nat.le_refl _) _⟩
end Go.Proofs.YtbhmeapnmpgggaaGreatDoor
/- errs: the method Is of a like: the walk. Condition: the error and the target lie in the world. -/
namespace Go.Proofs.YtbhmeapnmpgggaaGreatDoor
open Go.RowKit

/-- does an error say of itself that it is another one? -/
def E.saysC (e t : E) : Bool := (decide (t.k = 1 ∨ t.k = 10)) && decide (t.code ∈ e.codes)
theorem EV.coder {B : Nat} {w : World} {e : E} {v : Value} (hv : EV B w e v) (h0 : e.k ≠ 0) (hk : E.okK e.k) :
    (e.k = 1 ∧ v = .iface 106 (.agg #[.int .i64 e.code, .string e.t])) ∨ (e.k = 10 ∧ v = .iface 115 (.agg #[.int .i64 e.code, .string e.t])) ∨
    (e.k ≠ 1 ∧ e.k ≠ 10 ∧ ∀ w', (Instr.typeAssert v 68 101 true).run Tryz.prog w' = .ok (.tuple #[.nilIface, .bool false]) w') := by
  unfold EV at hv
  rcases hv with ⟨a, rfl⟩ | ⟨a, g, b, rfl, d⟩ | ⟨a, g, b, rfl, d⟩ | ⟨a, g, b, rfl, d⟩ | ⟨a, g, b, rfl, d⟩ | ⟨a, rfl⟩ | ⟨a, rfl⟩ | ⟨a, g, b, rfl, d⟩ | ⟨a, g, b, rfl, d⟩ | ⟨a, rfl⟩ | ⟨a, rfl⟩
  · exact .inl ⟨a, rfl⟩
  · exact .inr (.inr ⟨by omega, by omega, asPtr2 _⟩)
  · exact .inr (.inr ⟨by omega, by omega, asWrap2 _⟩)
  · exact .inr (.inr ⟨by omega, by omega, asMany2 _⟩)
  · exact .inr (.inr ⟨by omega, by omega, asHold2 _⟩)
  · exact .inr (.inr ⟨by omega, by omega, asList2 _⟩)
  · exact .inr (.inr ⟨by omega, by omega, asPtr2 _⟩)
  · exact .inr (.inr ⟨by omega, by omega, asLike2 _⟩)
  · exact .inr (.inr ⟨by omega, by omega, asAs2 _⟩)
  · exact .inr (.inl ⟨a, rfl⟩)
  · exact absurd a (by rintro (a | a); exact a hk; exact h0 a)
theorem methodCode1 (x : Value) : ∀ w, (method 450 106 x "Code").run Tryz.prog w = .ok (202, x) w := fun _ => by kernel_rfl
theorem methodCode10 (x : Value) : ∀ w, (method 450 115 x "Code").run Tryz.prog w = .ok (226, x) w := fun _ => by kernel_rfl

set_option maxHeartbeats 2000000 in
set_option maxRecDepth 100000 in
theorem likeIs_any (e t : E) (g : Nat) (B : Nat) (v : Value) (w : World) (hg : Blk w g 126 e.cs.toArray) (he : e.In w) (hv : EV B w t v) (h0 : t.k ≠ 0) (hk : E.okK t.k) :
    Calls Tryz.prog 218 #[.pointer (some ⟨g, 0, none⟩), v] w fun en w' => en = .returned (.bool (e.saysC t)) ∧ Below w.heap.size w w' := by
  have hc9 : w.cell? ⟨g, 9, none⟩ = some (.slice e.cA e.codes.length e.cc) := by rw [hg.cell 9]; rfl
  have hlt := hg.lt
  have hl : e.codes.length ≤ 9223372036854775807 := by have := he.rng.2.2.2.2.2.2.1; omega
  have hC := Lib.hid (fun w' (hb : Below w.heap.size w w') => contains_any e.codes t.code e.cA e.cc w' hl (he.cod.below hb))
  have hb0 := Lib.hid (Below.refl w.heap.size w).drew
  clear hg he
  rcases hv.coder h0 hk with ⟨a, rfl⟩ | ⟨a, rfl⟩ | ⟨a1, a10, h2⟩
  · have hs : e.saysC t = decide (t.code ∈ e.codes) := by unfold E.saysC; rw [decide_eq_true (.inl a), Bool.true_and]
    rw [hs]
    have h2 := asPlain2 (.agg #[.int .i64 t.code, .string t.t]) w
    have hm := methodCode1 (.agg #[.int .i64 t.code, .string t.t])
    have h1 := Lib.hid (fun w => code1_any t.code t.t w)
    clear hv a h0 hk hs
    generalize decide (t.code ∈ e.codes) = r at *
    generalize e.codes.length = n, e.cA = A, e.cc = c, t.code = k, t.t = tt at *
    go_enter Tryz.func218, Tryz.ntmps218
    go_wp2_with fail
    go_region_held2 (fun w' => w'.cell? ⟨g, 9, none⟩ = some (.slice A n c))
      (first
        | go_keep
        | exact (hb1.out.cell hlt).trans hc9)
      (first
        | (go_at_call 202
           refine (h1.out _).mono ?_
           rintro en w1 ⟨rfl, hb1'⟩
           have hb1 := Lib.hid (hb0.out.trans hb1')
           clear hb1')
        | (go_at_call 221
           refine (hC.out _ hb1.out).mono ?_
           rintro en w2 ⟨rfl, rfl⟩))
    all_goals
      clear h1 hC hm h2
      go_wp2_with fail
      go_ret
      exact ⟨rfl, hb1.out⟩
  · have hs : e.saysC t = decide (t.code ∈ e.codes) := by unfold E.saysC; rw [decide_eq_true (.inr a), Bool.true_and]
    rw [hs]
    have h2 := asTime2 (.agg #[.int .i64 t.code, .string t.t]) w
    have hm := methodCode10 (.agg #[.int .i64 t.code, .string t.t])
    have h1 := Lib.hid (fun w => code10_any t.code t.t w)
    clear hv a h0 hk hs
    generalize decide (t.code ∈ e.codes) = r at *
    generalize e.codes.length = n, e.cA = A, e.cc = c, t.code = k, t.t = tt at *
    go_enter Tryz.func218, Tryz.ntmps218
    go_wp2_with fail
    go_region_held2 (fun w' => w'.cell? ⟨g, 9, none⟩ = some (.slice A n c))
      (first
        | go_keep
        | exact (hb1.out.cell hlt).trans hc9)
      (first
        | (go_at_call 226
           refine (h1.out _).mono ?_
           rintro en w1 ⟨rfl, hb1'⟩
           have hb1 := Lib.hid (hb0.out.trans hb1')
           clear hb1')
        | (go_at_call 221
           refine (hC.out _ hb1.out).mono ?_
           rintro en w2 ⟨rfl, rfl⟩))
    all_goals
      clear h1 hC hm h2
      go_wp2_with fail
      go_ret
      exact ⟨rfl, hb1.out⟩
  · have hs : e.saysC t = false := by unfold E.saysC; rw [decide_eq_false (by omega), Bool.false_and]
    rw [hs]
    have h3 := h2 w
    clear hv a1 a10 h0 hk hs hC h2
    generalize e.codes.length = n, e.cA = A, e.cc = c at *
    go_enter Tryz.func218, Tryz.ntmps218
    go_wp2_with fail
    go_quiet (fail)
    all_goals
      clear h3
      go_wp2_with fail
      go_ret
      exact ⟨rfl, ⟨rfl, rfl, rfl, Nat.le_refl _, fun _ _ => rfl⟩⟩
end Go.Proofs.YtbhmeapnmpgggaaGreatDoor
