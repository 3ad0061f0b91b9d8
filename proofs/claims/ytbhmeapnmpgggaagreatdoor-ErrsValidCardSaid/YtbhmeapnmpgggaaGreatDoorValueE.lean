/- errs.value: the walk; what an error value is. Condition: none but that the error's fields are as they are. -/
import Derived.Test.YtbhmeapnmpgggaaGreatDoorKit
import Derived.Test.YtbhmeapnmpgggaaGreatDoorBaseE
namespace Go.Proofs.YtbhmeapnmpgggaaGreatDoor
open Go.RowKit

/-- v is the error value of e, in the world w; its block, where it has one, lies from B on -/
def EV (B : Nat) (w : World) (e : E) (v : Value) : Prop :=
  (e.k = 1 ∧ v = .iface 106 (.agg #[.int .i64 e.code, .string e.t])) ∨
  (e.k = 2 ∧ ∃ g, B ≤ g ∧ v = .iface 94 (.pointer (some ⟨g, 0, none⟩)) ∧ Blk w g 123 e.cs.toArray) ∨
  (e.k = 3 ∧ ∃ g, B ≤ g ∧ v = .iface 107 (.pointer (some ⟨g, 0, none⟩)) ∧ Blk w g 124 e.cs.toArray) ∨
  (e.k = 4 ∧ ∃ g, B ≤ g ∧ v = .iface 108 (.pointer (some ⟨g, 0, none⟩)) ∧ Blk w g 125 e.cs.toArray) ∨
  (e.k = 5 ∧ ∃ g, B ≤ g ∧ v = .iface 111 (.agg #[.pointer (some ⟨g, 0, none⟩)]) ∧ Blk w g 29 e.cs.toArray) ∨
  (e.k = 6 ∧ v = .iface 112 (.slice e.cA e.codes.length e.cc)) ∨
  (e.k = 7 ∧ v = .iface 94 (.pointer none)) ∨
  (e.k = 8 ∧ ∃ g, B ≤ g ∧ v = .iface 113 (.pointer (some ⟨g, 0, none⟩)) ∧ Blk w g 126 e.cs.toArray) ∨
  (e.k = 9 ∧ ∃ g, B ≤ g ∧ v = .iface 114 (.pointer (some ⟨g, 0, none⟩)) ∧ Blk w g 127 e.cs.toArray) ∨
  (e.k = 10 ∧ v = .iface 115 (.agg #[.int .i64 e.code, .string e.t])) ∨
  (¬ E.okK e.k ∨ e.k = 0) ∧ v = .nilIface
def ValueE (w : World) (d : E) (e : Ending) (w' : World) : Prop := ∃ v, e = .returned v ∧ EV w.heap.size w' d v ∧ Below w.heap.size w w'

set_option maxHeartbeats 2000000 in
set_option maxRecDepth 100000 in
theorem valueE_any (d : E) (w : World) : Calls Tryz.prog 54 #[d.v] w (ValueE w d) := by
  have hcs : d.cs.toArray = #[Value.int .i64 d.k, .int .i64 d.id, .int .i64 d.code, .string d.t, .int .i64 d.body.k, .int .i64 d.body.i, .int .u64 d.body.b, .string d.body.t, .slice d.body.A d.body.l.length d.body.c, .slice d.cA d.codes.length d.cc, .slice d.A d.l.length d.c] := rfl
  have hP : ∀ v w', Below w.heap.size w w' → EV w.heap.size w' d v → ValueE w d (.returned v) w' := fun v w' h1 h2 => ⟨v, rfl, h2, h1⟩
  have HP := Lib.hid hP
  unfold EV at HP
  rw [hcs] at HP
  clear hcs hP
  generalize ValueE w d = R at *
  simp only [E.v, E.cs]
  generalize d.k = f0, d.id = f1, d.code = f2, d.t = f3, d.body.k = f4, d.body.i = f5, d.body.b = f6, d.body.t = f7, d.body.A = f8, d.body.l.length = f9, d.body.c = f10, d.cA = f11, d.codes.length = f12, d.cc = f13, d.A = A, d.l.length = ll, d.c = c at *
  go_enter Tryz.func54, Tryz.ntmps54
  go_wp2_with fail
  all_goals first
    | (have e : f0 = 1 := eq_of_beq (by assumption); subst e; exact HP.out _ _ ((Below.refl _ _).alloc (Nat.le_refl _) _) (.inl ⟨rfl, rfl⟩))
    | (have e : f0 = 2 := eq_of_beq (by assumption); subst e; exact HP.out _ _ (((Below.refl _ _).alloc (Nat.le_refl _) _).alloc (by simp) _) (.inr (.inl ⟨rfl, w.heap.size + 1, by omega, rfl, Blk.new' (by simp) _ _⟩)))
    | (have e : f0 = 3 := eq_of_beq (by assumption); subst e; exact HP.out _ _ (((Below.refl _ _).alloc (Nat.le_refl _) _).alloc (by simp) _) (.inr (.inr (.inl ⟨rfl, w.heap.size + 1, by omega, rfl, Blk.new' (by simp) _ _⟩))))
    | (have e : f0 = 4 := eq_of_beq (by assumption); subst e; exact HP.out _ _ (((Below.refl _ _).alloc (Nat.le_refl _) _).alloc (by simp) _) (.inr (.inr (.inr (.inl ⟨rfl, w.heap.size + 1, by omega, rfl, Blk.new' (by simp) _ _⟩)))))
    | (have e : f0 = 5 := eq_of_beq (by assumption); subst e; exact HP.out _ _ ((Below.refl _ _).alloc (Nat.le_refl _) _) (.inr (.inr (.inr (.inr (.inl ⟨rfl, w.heap.size, Nat.le_refl _, rfl, Blk.new _ _ _⟩))))))
    | (have e : f0 = 6 := eq_of_beq (by assumption); subst e; exact HP.out _ _ ((Below.refl _ _).alloc (Nat.le_refl _) _) (.inr (.inr (.inr (.inr (.inr (.inl ⟨rfl, rfl⟩)))))))
    | (have e : f0 = 7 := eq_of_beq (by assumption); subst e; exact HP.out _ _ ((Below.refl _ _).alloc (Nat.le_refl _) _) (.inr (.inr (.inr (.inr (.inr (.inr (.inl ⟨rfl, rfl⟩))))))))
    | (have e : f0 = 8 := eq_of_beq (by assumption); subst e; exact HP.out _ _ (((Below.refl _ _).alloc (Nat.le_refl _) _).alloc (by simp) _) (.inr (.inr (.inr (.inr (.inr (.inr (.inr (.inl ⟨rfl, w.heap.size + 1, by omega, rfl, Blk.new' (by simp) _ _⟩)))))))))
    | (have e : f0 = 9 := eq_of_beq (by assumption); subst e; exact HP.out _ _ (((Below.refl _ _).alloc (Nat.le_refl _) _).alloc (by simp) _) (.inr (.inr (.inr (.inr (.inr (.inr (.inr (.inr (.inl ⟨rfl, w.heap.size + 1, by omega, rfl, Blk.new' (by simp) _ _⟩))))))))))
    | (have e : f0 = 10 := eq_of_beq (by assumption); subst e; exact HP.out _ _ ((Below.refl _ _).alloc (Nat.le_refl _) _) (.inr (.inr (.inr (.inr (.inr (.inr (.inr (.inr (.inr (.inl ⟨rfl, rfl⟩)))))))))))
    | (refine HP.out _ _ ((Below.refl _ _).alloc (Nat.le_refl _) _) (.inr (.inr (.inr (.inr (.inr (.inr (.inr (.inr (.inr (.inr (⟨?_, rfl⟩)))))))))))
       simp only [beq_eq_false_iff_ne, ne_eq] at *
       unfold E.okK
       omega)
end Go.Proofs.YtbhmeapnmpgggaaGreatDoor
