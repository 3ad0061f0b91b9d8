/- errs.walk: the walk over any tree, with any callee that keeps what Doer says. -/
import Derived.Test.YtbhmeapnmpgggaaGreatDoorNext
namespace Go.Proofs.YtbhmeapnmpgggaaGreatDoor
open Go.RowKit

theorem E.walk_eq {S : Type} (st : S → E → List Int → S × Nat) (e : E) (way : List Int) (s : S) (h : e.k ≠ 0) :
    e.walk st way s = if (st s e way).2 = 0 then E.walkL st e.l 0 way (st s e way).1 else st s e way := by
  cases e
  rw [E.walk]
  exact if_neg h
theorem E.walk_zero {S : Type} (st : S → E → List Int → S × Nat) (e : E) (way : List Int) (s : S) (h : e.k = 0) : e.walk st way s = (s, 0) := by
  cases e
  rw [E.walk]
  exact if_pos h
theorem E.right_fit {e : E} (h : e.right = true) : e.fit = true := by
  cases e; rw [E.right, Bool.and_eq_true] at h; exact h.1
theorem E.right_list {e : E} (h : e.right = true) : E.rightL e.k e.l = true := by
  cases e; rw [E.right, Bool.and_eq_true] at h; exact h.2
theorem E.rightL_at {k : Int} : ∀ {l : List E} (_ : E.rightL k l = true) {q : Nat} {x : E}, l[q]? = some x → (k = 4 ∨ x.k ≠ 0) ∧ x.right = true
  | [], _, q, x, h => by simp at h
  | y :: l, hr, 0, x, h => by
    rw [E.rightL, Bool.and_eq_true, Bool.and_eq_true] at hr
    have : y = x := by simpa using h
    subst this
    exact ⟨by simpa using hr.1.1, hr.1.2⟩
  | y :: l, hr, q + 1, x, h => by
    rw [E.rightL, Bool.and_eq_true, Bool.and_eq_true] at hr
    exact E.rightL_at hr.2 (q := q) (by simpa using h)
theorem E.right_ok {e : E} (h : e.right = true) : E.okK e.k := by
  have := E.right_fit h
  unfold E.fit E.head at this
  simp only [Bool.and_eq_true, decide_eq_true_eq] at this
  exact this.1.1.1
theorem E.right_len {e : E} (h : e.right = true) : E.fLeast e.k ≤ e.l.length ∧ (e.l.length : Int) ≤ E.fMost e.k := by
  have := E.right_fit h
  unfold E.fit E.head at this
  rw [Bool.and_eq_true, Bool.and_eq_true, Bool.and_eq_true] at this
  exact (of_decide_eq_true this.1.2).2
theorem E.right_leaf {e : E} (h : e.right = true) (h3 : e.k ≠ 3) (h4 : e.k ≠ 4) (h8 : e.k ≠ 8) : e.l = [] := by
  have := (E.right_len h).2
  unfold E.fMost at this
  rw [if_neg h3, if_neg h8, if_neg h4] at this
  exact List.eq_nil_of_length_eq_zero (by omega)
theorem E.right_one {e : E} (h : e.right = true) (h3 : e.k = 3) : ∃ x, e.l = [x] := by
  have := E.right_len h
  unfold E.fMost E.fLeast at this
  rw [if_pos h3, if_pos h3] at this
  exact List.length_eq_one_iff.1 (by omega)
theorem E.right_like {e : E} (h : e.right = true) (h8 : e.k = 8) : e.l = [] ∨ ∃ x, e.l = [x] := by
  have := (E.right_len h).2
  unfold E.fMost at this
  rw [if_neg (by omega), if_pos h8] at this
  rcases Nat.lt_or_ge 0 e.l.length with g | g
  · exact .inr (List.length_eq_one_iff.1 (by omega))
  · exact .inl (List.eq_nil_of_length_eq_zero (by omega))
theorem E.right_4096 {e : E} (h : e.right = true) : e.l.length ≤ 4096 := by
  have := (E.right_len h).2
  unfold E.fMost at this
  split at this
  · omega
  · split at this
    · omega
    · split at this <;> omega
/-! what kind of value a kind has -/
theorem EV.nil {B : Nat} {w : World} {e : E} {v : Value} (hv : EV B w e v) (h : e.k = 0) : v = .nilIface := by
  unfold EV at hv
  rcases hv with ⟨a, _⟩ | ⟨a, _⟩ | ⟨a, _⟩ | ⟨a, _⟩ | ⟨a, _⟩ | ⟨a, _⟩ | ⟨a, _⟩ | ⟨a, _⟩ | ⟨a, _⟩ | ⟨a, _⟩ | ⟨a, rfl⟩
  all_goals first
    | rfl
    | omega
theorem EV.iface {B : Nat} {w : World} {e : E} {v : Value} (hv : EV B w e v) (h : e.k ≠ 0) (hk : E.okK e.k) : ∃ t y, v = .iface t y := by
  unfold EV at hv
  rcases hv with ⟨a, rfl⟩ | ⟨a, g, b, rfl, d⟩ | ⟨a, g, b, rfl, d⟩ | ⟨a, g, b, rfl, d⟩ | ⟨a, g, b, rfl, d⟩ | ⟨a, rfl⟩ | ⟨a, rfl⟩ | ⟨a, g, b, rfl, d⟩ | ⟨a, g, b, rfl, d⟩ | ⟨a, rfl⟩ | ⟨a, rfl⟩
  case inr.inr.inr.inr.inr.inr.inr.inr.inr.inr => exact absurd a (by rintro (a | a); exact a hk; exact h a)
  all_goals exact ⟨_, _, rfl⟩
theorem EV.wrap {B : Nat} {w : World} {e : E} {v : Value} (hv : EV B w e v) (h : e.k = 3) : ∃ g, B ≤ g ∧ v = .iface 107 (.pointer (some ⟨g, 0, none⟩)) ∧ Blk w g 124 e.cs.toArray := by
  unfold EV E.okK at hv
  rcases hv with ⟨a, _⟩ | ⟨a, _⟩ | ⟨a, b⟩ | ⟨a, _⟩ | ⟨a, _⟩ | ⟨a, _⟩ | ⟨a, _⟩ | ⟨a, _⟩ | ⟨a, _⟩ | ⟨a, _⟩ | ⟨a, _⟩
  all_goals first
    | exact b
    | (exfalso; omega)
theorem EV.many {B : Nat} {w : World} {e : E} {v : Value} (hv : EV B w e v) (h : e.k = 4) : ∃ g, B ≤ g ∧ v = .iface 108 (.pointer (some ⟨g, 0, none⟩)) ∧ Blk w g 125 e.cs.toArray := by
  unfold EV E.okK at hv
  rcases hv with ⟨a, _⟩ | ⟨a, _⟩ | ⟨a, _⟩ | ⟨a, b⟩ | ⟨a, _⟩ | ⟨a, _⟩ | ⟨a, _⟩ | ⟨a, _⟩ | ⟨a, _⟩ | ⟨a, _⟩ | ⟨a, _⟩
  all_goals first
    | exact b
    | (exfalso; omega)
theorem EV.like {B : Nat} {w : World} {e : E} {v : Value} (hv : EV B w e v) (h : e.k = 8) : ∃ g, B ≤ g ∧ v = .iface 113 (.pointer (some ⟨g, 0, none⟩)) ∧ Blk w g 126 e.cs.toArray := by
  unfold EV E.okK at hv
  rcases hv with ⟨a, _⟩ | ⟨a, _⟩ | ⟨a, _⟩ | ⟨a, _⟩ | ⟨a, _⟩ | ⟨a, _⟩ | ⟨a, _⟩ | ⟨a, b⟩ | ⟨a, _⟩ | ⟨a, _⟩ | ⟨a, _⟩
  all_goals first
    | exact b
    | (exfalso; omega)
theorem EV.leaf {B : Nat} {w : World} {e : E} {v : Value} (hv : EV B w e v) (h0 : e.k ≠ 0) (hk : E.okK e.k) (h3 : e.k ≠ 3) (h4 : e.k ≠ 4) (h8 : e.k ≠ 8) :
    (∀ w', (Instr.typeAssert v 68 130 true).run Tryz.prog w' = .ok (.tuple #[.nilIface, .bool false]) w') ∧
    (∀ w', (Instr.typeAssert v 68 133 true).run Tryz.prog w' = .ok (.tuple #[.nilIface, .bool false]) w') := by
  unfold EV at hv
  rcases hv with ⟨a, rfl⟩ | ⟨a, g, b, rfl, d⟩ | ⟨a, g, b, rfl, d⟩ | ⟨a, g, b, rfl, d⟩ | ⟨a, g, b, rfl, d⟩ | ⟨a, rfl⟩ | ⟨a, rfl⟩ | ⟨a, g, b, rfl, d⟩ | ⟨a, g, b, rfl, d⟩ | ⟨a, rfl⟩ | ⟨a, rfl⟩
  · exact ⟨asPlain4 _, asPlain5 _⟩
  · exact ⟨asPtr4 _, asPtr5 _⟩
  · exact absurd a h3
  · exact absurd a h4
  · exact ⟨asHold4 _, asHold5 _⟩
  · exact ⟨asList4 _, asList5 _⟩
  · exact ⟨asPtr4 _, asPtr5 _⟩
  · exact absurd a h8
  · exact ⟨asAs4 _, asAs5 _⟩
  · exact ⟨asTime4 _, asTime5 _⟩
  · exact absurd a (by rintro (a | a); exact a hk; exact h0 a)
end Go.Proofs.YtbhmeapnmpgggaaGreatDoor
