/- errs: the method Is of a like: the walk. Condition: the error and the target lie in the world. -/
import Derived.Test.YtbhmeapnmpgggaaGreatDoorLikeIs
namespace Go.Proofs.YtbhmeapnmpgggaaGreatDoor
open Go.RowKit

/-- does an error say of itself that it is another one? -/
def E.saysC (e t : E) : Bool := (decide (t.k = 1 ∨ t.k = 10)) && decide (t.code ∈ e.codes)
theorem EV.coder {B : Nat} {w : World} {e : E} {v : Value} (hv : EV B w e v) (h0 : e.k ≠ 0) (hk : E.okK e.k) :
    (e.k = 1 ∧ v = .iface 106 (.agg #[.int .i64 e.code, .string e.t])) ∨ (e.k = 10 ∧ v = .iface 115 (.agg #[.int .i64 e.code, .string e.t])) ∨
    (e.k ≠ 1 ∧ e.k ≠ 10 ∧ ∀ w', (Instr.typeAssert v 68 101 true).run Tryz.prog w' = .ok (.tuple #[.nilIface, .bool false]) w') := by
  unfold EV at hv
  rcases hv with ⟨a, rfl⟩ | ⟨a, g, b, rfl, d⟩ | ⟨a, g, b, rfl, d⟩ | ⟨a, g, b, rfl, d⟩ | ⟨a, g, b, rfl, d⟩ | ⟨a, rfl⟩ | ⟨a, rfl⟩ | ⟨a, g, b, rfl, d⟩ | ⟨a, g, b, rfl, d⟩ | ⟨a, rfl⟩ | ⟨a, rfl⟩
  · exact .inl ⟨a, rfl⟩
  · exact .inr (.inr ⟨by omega, by omega, asPtr2 _⟩)
  · exact .inr (.inr ⟨by omega, by omega, asWrap2 _⟩)
  · exact .inr (.inr ⟨by omega, by omega, asMany2 _⟩)
  · exact .inr (.inr ⟨by omega, by omega, asHold2 _⟩)
  · exact .inr (.inr ⟨by omega, by omega, asList2 _⟩)
  · exact .inr (.inr ⟨by omega, by omega, asPtr2 _⟩)
  · exact .inr (.inr ⟨by omega, by omega, asLike2 _⟩)
  · exact .inr (.inr ⟨by omega, by omega, asAs2 _⟩)
  · exact .inr (.inl ⟨a, rfl⟩)
  · exact absurd a (by rintro (a | a); exact a hk; exact h0 a)
theorem methodCode1 (x : Value) : ∀ w, (method 450 106 x "Code").run Tryz.prog w = .ok (202, x) w := fun _ => by kernel_rfl
theorem methodCode10 (x : Value) : ∀ w, (method 450 115 x "Code").run Tryz.prog w = .ok (226, x) w := fun _ => by kernel_rfl

set_option maxHeartbeats 2000000 in
set_option maxRecDepth 100000 in
theorem likeIs_any (e t : E) (g : Nat) (B : Nat) (v : Value) (w : World) (hg : Blk w g 126 e.cs.toArray) (he : e.In w) (hv : EV B w t v) (h0 : t.k ≠ 0) (hk : E.okK t.k) :
    Calls Tryz.prog 218 #[.pointer (some ⟨g, 0, none⟩), v] w fun en w' => en = .returned (.bool (e.saysC t)) ∧ Below w.heap.size w w' := by
  have hc9 : w.cell? ⟨g, 9, none⟩ = some (.slice e.cA e.codes.length e.cc) := by rw [hg.cell 9]; rfl
  have hlt := hg.lt
  have hl : e.codes.length ≤ 9223372036854775807 := by have := he.rng.2.2.2.2.2.2.1; omega
  have hC := Lib.hid (fun w' (hb : Below w.heap.size w w') => contains_any e.codes t.code e.cA e.cc w' hl (he.cod.below hb))
  have hb0 := Lib.hid (Below.refl w.heap.size w).drew
  clear hg he
  rcases hv.coder h0 hk with ⟨a, rfl⟩ | ⟨a, rfl⟩ | ⟨a1, a10, h2⟩
  · have hs : e.saysC t = decide (t.code ∈ e.codes) := by unfold E.saysC; rw [decide_eq_true (.inl a), Bool.true_and]
    rw [hs]
    have h2 := asPlain2 (.agg #[.int .i64 t.code, .string t.t]) w
    have hm := methodCode1 (.agg #[.int .i64 t.code, .string t.t])
    have h1 := Lib.hid (fun w => code1_any t.code t.t w)
    clear hv a h0 hk hs
    generalize decide (t.code ∈ e.codes) = r at *
    generalize e.codes.length = n, e.cA = A, e.cc = c, t.code = k, t.t = tt at *
    go_enter Tryz.func218, Tryz.ntmps218
    go_wp2_with fail
    go_region_held2 (fun w' => w'.cell? ⟨g, 9, none⟩ = some (.slice A n c))
      (first
        | go_keep
        | exact (hb1.out.cell hlt).trans hc9)
      (first
        | (go_at_call 202
           refine (h1.out _).mono ?_
           rintro en w1 ⟨rfl, hb1'⟩
           have hb1 := Lib.hid (hb0.out.trans hb1')
           clear hb1')
        | (go_at_call 221
           refine (hC.out _ hb1.out).mono ?_
           rintro en w2 ⟨rfl, rfl⟩))
    all_goals
      clear h1 hC hm h2
      go_wp2_with fail
      go_ret
      exact ⟨rfl, hb1.out⟩
  · have hs : e.saysC t = decide (t.code ∈ e.codes) := by unfold E.saysC; rw [decide_eq_true (.inr a), Bool.true_and]
    rw [hs]
    have h2 := asTime2 (.agg #[.int .i64 t.code, .string t.t]) w
    have hm := methodCode10 (.agg #[.int .i64 t.code, .string t.t])
    have h1 := Lib.hid (fun w => code10_any t.code t.t w)
    clear hv a h0 hk hs
    generalize decide (t.code ∈ e.codes) = r at *
    generalize e.codes.length = n, e.cA = A, e.cc = c, t.code = k, t.t = tt at *
    go_enter Tryz.func218, Tryz.ntmps218
    go_wp2_with fail
    go_region_held2 (fun w' => w'.cell? ⟨g, 9, none⟩ = some (.slice A n c))
      (first
        | go_keep
        | exact (hb1.out.cell hlt).trans hc9)
      (first
        | (go_at_call 226
           refine (h1.out _).mono ?_
           rintro en w1 ⟨rfl, hb1'⟩
           have hb1 := Lib.hid (hb0.out.trans hb1')
           clear hb1')
        | (go_at_call 221
           refine (hC.out _ hb1.out).mono ?_
           rintro en w2 ⟨rfl, rfl⟩))
    all_goals
      clear h1 hC hm h2
      go_wp2_with fail
      go_ret
      exact ⟨rfl, hb1.out⟩
  · have hs : e.saysC t = false := by unfold E.saysC; rw [decide_eq_false (by omega), Bool.false_and]
    rw [hs]
    have h3 := h2 w
    clear hv a1 a10 h0 hk hs hC h2
    generalize e.codes.length = n, e.cA = A, e.cc = c at *
    go_enter Tryz.func218, Tryz.ntmps218
    go_wp2_with fail
    go_quiet (fail)
    all_goals
      clear h3
      go_wp2_with fail
      go_ret
      exact ⟨rfl, ⟨rfl, rfl, rfl, Nat.le_refl _, fun _ _ => rfl⟩⟩
end Go.Proofs.YtbhmeapnmpgggaaGreatDoor
