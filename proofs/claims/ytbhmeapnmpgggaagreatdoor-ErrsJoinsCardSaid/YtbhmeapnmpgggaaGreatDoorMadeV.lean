/- errs: an error value as a holder: what its method made is, and what it gives. -/
import Derived.Test.YtbhmeapnmpgggaaGreatDoorMade
namespace Go.Proofs.YtbhmeapnmpgggaaGreatDoor
open Go.RowKit

def Holds (w : World) (e : E) (v : Value) : Prop := ∃ t y f, v = .iface t y ∧ (∀ w', (Instr.typeAssert (.iface t y) 68 72 false).run Tryz.prog w' = .ok (.iface t y) w') ∧
  (∀ w', (method 450 t y "conduit/errs.made").run Tryz.prog w' = .ok (f, y) w') ∧ (∀ args w', (callFunc f args).run Tryz.prog w' = .ok (.enter f args) w') ∧ (∀ w', Below w.heap.size w w' → Calls Tryz.prog f #[y] w' (Ret e.made.v w'))
theorem E.made_self {e : E} (h : e.k ≠ 1 ∧ e.k ≠ 10 ∧ e.k ≠ 6 ∧ e.k ≠ 7) : e.made = e := by
  unfold E.made
  rw [if_neg (by omega), if_neg (by omega), if_neg (by omega)]
theorem EV.holds {B : Nat} {w : World} {e : E} {v : Value} (hv : EV B w e v) (h0 : e.k ≠ 0) (hk : E.okK e.k) : Holds w e v := by
  unfold EV at hv
  rcases hv with ⟨a, rfl⟩ | ⟨a, g, b, rfl, d⟩ | ⟨a, g, b, rfl, d⟩ | ⟨a, g, b, rfl, d⟩ | ⟨a, g, b, rfl, d⟩ | ⟨a, rfl⟩ | ⟨a, rfl⟩ | ⟨a, g, b, rfl, d⟩ | ⟨a, g, b, rfl, d⟩ | ⟨a, rfl⟩ | ⟨a, rfl⟩
  · refine ⟨_, _, 204, rfl, fun _ => by kernel_rfl, fun _ => by kernel_rfl, fun _ _ => by kernel_rfl, fun w' _ => ?_⟩
    rw [show e.made = .mk e.k 0 e.code e.t D.zero none 0 [] none 0 [] from if_pos (.inl a), a]
    exact made1_any e.code e.t w'
  · refine ⟨_, _, 201, rfl, fun _ => by kernel_rfl, fun _ => by kernel_rfl, fun _ _ => by kernel_rfl, fun w' hb => ?_⟩
    rw [E.made_self (by omega)]
    exact made2_any e g w' (d.below hb d.lt)
  · refine ⟨_, _, 207, rfl, fun _ => by kernel_rfl, fun _ => by kernel_rfl, fun _ _ => by kernel_rfl, fun w' hb => ?_⟩
    rw [E.made_self (by omega)]
    exact made3_any e g w' (d.below hb d.lt)
  · refine ⟨_, _, 211, rfl, fun _ => by kernel_rfl, fun _ => by kernel_rfl, fun _ _ => by kernel_rfl, fun w' hb => ?_⟩
    rw [E.made_self (by omega)]
    exact made4_any e g w' (d.below hb d.lt)
  · refine ⟨_, _, 214, rfl, fun _ => by kernel_rfl, fun _ => by kernel_rfl, fun _ _ => by kernel_rfl, fun w' hb => ?_⟩
    rw [E.made_self (by omega)]
    exact made5_any e g w' (d.below hb d.lt)
  · refine ⟨_, _, 216, rfl, fun _ => by kernel_rfl, fun _ => by kernel_rfl, fun _ _ => by kernel_rfl, fun w' _ => ?_⟩
    have : e.made = .mk 6 0 0 ⟨#[]⟩ D.zero e.cA e.cc e.codes none 0 [] := by unfold E.made; rw [if_neg (by omega), if_pos a]
    rw [this]
    exact made6_any e.cA e.codes.length e.cc w'
  · refine ⟨_, _, 201, rfl, fun _ => by kernel_rfl, fun _ => by kernel_rfl, fun _ _ => by kernel_rfl, fun w' _ => ?_⟩
    have : e.made = .mk 7 0 0 ⟨#[]⟩ D.zero none 0 [] none 0 [] := by unfold E.made; rw [if_neg (by omega), if_neg (by omega), if_pos a]
    rw [this]
    exact made7_any w'
  · refine ⟨_, _, 220, rfl, fun _ => by kernel_rfl, fun _ => by kernel_rfl, fun _ _ => by kernel_rfl, fun w' hb => ?_⟩
    rw [E.made_self (by omega)]
    exact made8_any e g w' (d.below hb d.lt)
  · refine ⟨_, _, 225, rfl, fun _ => by kernel_rfl, fun _ => by kernel_rfl, fun _ _ => by kernel_rfl, fun w' hb => ?_⟩
    rw [E.made_self (by omega)]
    exact made9_any e g w' (d.below hb d.lt)
  · refine ⟨_, _, 229, rfl, fun _ => by kernel_rfl, fun _ => by kernel_rfl, fun _ _ => by kernel_rfl, fun w' _ => ?_⟩
    rw [show e.made = .mk e.k 0 e.code e.t D.zero none 0 [] none 0 [] from if_pos (.inr a), a]
    exact made10_any e.code e.t w'
  · exact absurd a (by rintro (a | a); exact a hk; exact h0 a)
end Go.Proofs.YtbhmeapnmpgggaaGreatDoor
