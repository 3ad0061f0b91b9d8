/- errs.fields: the walk. No condition. -/
import Derived.Test.YtbhmeapnmpgggaaGreatDoorKit
import Derived.Test.YtbhmeapnmpgggaaGreatDoorBaseE
namespace Go.Proofs.YtbhmeapnmpgggaaGreatDoor
open Go.RowKit

def E.fieldsV (k : Int) : Value := .agg #[.bool (E.fId k), .bool (E.fCode k), .bool (E.fText k), .bool (E.fBody k), .bool (E.fCodes k), .int .i64 (E.fLeast k), .int .i64 (E.fMost k)]

set_option maxHeartbeats 2000000 in
set_option maxRecDepth 100000 in
theorem fields_any (k : Int) (w : World) :
    Calls Tryz.prog 117 #[.int .i64 k] w fun e w' => e = .returned (.tuple #[E.fieldsV k, .bool (decide (E.okK k))]) ∧ Below w.heap.size w w' := by
  go_enter Tryz.func117, Tryz.ntmps117
  go_wp2_with fail
  all_goals first
    | (have e : k = 0 := eq_of_beq (by assumption); subst e; (refine bodyPost_ret (v := .tuple #[E.fieldsV 0, .bool (decide (E.okK 0))]) ?_ rfl ⟨rfl, ((Below.refl _ _).alloc (Nat.le_refl _) _)⟩; simp [results, Tryz.results117, go_sem, E.fieldsV, E.fId, E.fCode, E.fText, E.fBody, E.fCodes, E.fLeast, E.fMost, E.okK]))
    | (have e : k = 1 := eq_of_beq (by assumption); subst e; (refine bodyPost_ret (v := .tuple #[E.fieldsV 1, .bool (decide (E.okK 1))]) ?_ rfl ⟨rfl, ((Below.refl _ _).alloc (Nat.le_refl _) _)⟩; simp [results, Tryz.results117, go_sem, E.fieldsV, E.fId, E.fCode, E.fText, E.fBody, E.fCodes, E.fLeast, E.fMost, E.okK]))
    | (have e : k = 2 := eq_of_beq (by assumption); subst e; (refine bodyPost_ret (v := .tuple #[E.fieldsV 2, .bool (decide (E.okK 2))]) ?_ rfl ⟨rfl, ((Below.refl _ _).alloc (Nat.le_refl _) _)⟩; simp [results, Tryz.results117, go_sem, E.fieldsV, E.fId, E.fCode, E.fText, E.fBody, E.fCodes, E.fLeast, E.fMost, E.okK]))
    | (have e : k = 3 := eq_of_beq (by assumption); subst e; (refine bodyPost_ret (v := .tuple #[E.fieldsV 3, .bool (decide (E.okK 3))]) ?_ rfl ⟨rfl, ((Below.refl _ _).alloc (Nat.le_refl _) _)⟩; simp [results, Tryz.results117, go_sem, E.fieldsV, E.fId, E.fCode, E.fText, E.fBody, E.fCodes, E.fLeast, E.fMost, E.okK]))
    | (have e : k = 4 := eq_of_beq (by assumption); subst e; (refine bodyPost_ret (v := .tuple #[E.fieldsV 4, .bool (decide (E.okK 4))]) ?_ rfl ⟨rfl, ((Below.refl _ _).alloc (Nat.le_refl _) _)⟩; simp [results, Tryz.results117, go_sem, E.fieldsV, E.fId, E.fCode, E.fText, E.fBody, E.fCodes, E.fLeast, E.fMost, E.okK]))
    | (have e : k = 5 := eq_of_beq (by assumption); subst e; (refine bodyPost_ret (v := .tuple #[E.fieldsV 5, .bool (decide (E.okK 5))]) ?_ rfl ⟨rfl, ((Below.refl _ _).alloc (Nat.le_refl _) _)⟩; simp [results, Tryz.results117, go_sem, E.fieldsV, E.fId, E.fCode, E.fText, E.fBody, E.fCodes, E.fLeast, E.fMost, E.okK]))
    | (have e : k = 6 := eq_of_beq (by assumption); subst e; (refine bodyPost_ret (v := .tuple #[E.fieldsV 6, .bool (decide (E.okK 6))]) ?_ rfl ⟨rfl, ((Below.refl _ _).alloc (Nat.le_refl _) _)⟩; simp [results, Tryz.results117, go_sem, E.fieldsV, E.fId, E.fCode, E.fText, E.fBody, E.fCodes, E.fLeast, E.fMost, E.okK]))
    | (have e : k = 7 := eq_of_beq (by assumption); subst e; (refine bodyPost_ret (v := .tuple #[E.fieldsV 7, .bool (decide (E.okK 7))]) ?_ rfl ⟨rfl, ((Below.refl _ _).alloc (Nat.le_refl _) _)⟩; simp [results, Tryz.results117, go_sem, E.fieldsV, E.fId, E.fCode, E.fText, E.fBody, E.fCodes, E.fLeast, E.fMost, E.okK]))
    | (have e : k = 8 := eq_of_beq (by assumption); subst e; (refine bodyPost_ret (v := .tuple #[E.fieldsV 8, .bool (decide (E.okK 8))]) ?_ rfl ⟨rfl, ((Below.refl _ _).alloc (Nat.le_refl _) _)⟩; simp [results, Tryz.results117, go_sem, E.fieldsV, E.fId, E.fCode, E.fText, E.fBody, E.fCodes, E.fLeast, E.fMost, E.okK]))
    | (have e : k = 9 := eq_of_beq (by assumption); subst e; (refine bodyPost_ret (v := .tuple #[E.fieldsV 9, .bool (decide (E.okK 9))]) ?_ rfl ⟨rfl, ((Below.refl _ _).alloc (Nat.le_refl _) _)⟩; simp [results, Tryz.results117, go_sem, E.fieldsV, E.fId, E.fCode, E.fText, E.fBody, E.fCodes, E.fLeast, E.fMost, E.okK]))
    | (have e : k = 10 := eq_of_beq (by assumption); subst e; (refine bodyPost_ret (v := .tuple #[E.fieldsV 10, .bool (decide (E.okK 10))]) ?_ rfl ⟨rfl, ((Below.refl _ _).alloc (Nat.le_refl _) _)⟩; simp [results, Tryz.results117, go_sem, E.fieldsV, E.fId, E.fCode, E.fText, E.fBody, E.fCodes, E.fLeast, E.fMost, E.okK]))
    | (have h0 : k ≠ 0 ∧ k ≠ 1 ∧ k ≠ 2 ∧ k ≠ 3 ∧ k ≠ 4 ∧ k ≠ 5 ∧ k ≠ 6 ∧ k ≠ 7 ∧ k ≠ 8 ∧ k ≠ 9 ∧ k ≠ 10 := by simp only [beq_eq_false_iff_ne] at *; omega
       have hk : ¬ (0 ≤ k ∧ k ≤ 10) := by omega
       obtain ⟨a0, a1, a2, a3, a4, a5, a6, a7, a8, a9, a10⟩ := h0
       refine bodyPost_ret (v := .tuple #[E.fieldsV k, .bool (decide (E.okK k))]) ?_ rfl ⟨rfl, ((Below.refl _ _).alloc (Nat.le_refl _) _)⟩
       simp [results, Tryz.results117, go_sem, E.fieldsV, E.fId, E.fCode, E.fText, E.fBody, E.fCodes, E.fLeast, E.fMost, E.okK, a1, a2, a3, a4, a5, a6, a8, a9, a10]
       exact decide_eq_false hk)
end Go.Proofs.YtbhmeapnmpgggaaGreatDoor
