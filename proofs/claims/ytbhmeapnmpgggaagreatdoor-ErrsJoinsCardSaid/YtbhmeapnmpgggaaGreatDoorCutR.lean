/- errs.fields: the walk. No condition. -/
import Derived.Test.YtbhmeapnmpgggaaGreatDoorKit
import Derived.Test.YtbhmeapnmpgggaaGreatDoorBaseE
import Derived.Deep.Cut
namespace Go.Proofs.YtbhmeapnmpgggaaGreatDoor
open Go.RowKit

def E.fieldsV (k : Int) : Value := .agg #[.bool (E.fId k), .bool (E.fCode k), .bool (E.fText k), .bool (E.fBody k), .bool (E.fCodes k), .int .i64 (E.fLeast k), .int .i64 (E.fMost k)]

set_option maxHeartbeats 2000000 in
set_option maxRecDepth 100000 in
theorem fields_any (k : Int) (w : World) :
    Calls Tryz.prog 117 #[.int .i64 k] w fun e w' => e = .returned (.tuple #[E.fieldsV k, .bool (decide (E.okK k))]) ∧ Below w.heap.size w w' := by
  go_enter Tryz.func117, Tryz.ntmps117
  go_wp2_with fail
  all_goals first
    | (have e : k = 0 := eq_of_beq (by assumption); subst e; (refine bodyPost_ret (v := .tuple #[E.fieldsV 0, .bool (decide (E.okK 0))]) ?_ rfl ⟨rfl, ((Below.refl _ _).alloc (Nat.le_refl _) _)⟩; simp [results, Tryz.results117, go_sem, E.fieldsV, E.fId, E.fCode, E.fText, E.fBody, E.fCodes, E.fLeast, E.fMost, E.okK]))
    | (have e : k = 1 := eq_of_beq (by assumption); subst e; (refine bodyPost_ret (v := .tuple #[E.fieldsV 1, .bool (decide (E.okK 1))]) ?_ rfl ⟨rfl, ((Below.refl _ _).alloc (Nat.le_refl _) _)⟩; simp [results, Tryz.results117, go_sem, E.fieldsV, E.fId, E.fCode, E.fText, E.fBody, E.fCodes, E.fLeast, E.fMost, E.okK]))
    | (have e : k = 2 := eq_of_beq (by assumption); subst e; (refine bodyPost_ret (v := .tuple #[E.fieldsV 2, .bool (decide (E.okK 2))]) ?_ rfl ⟨rfl, ((Below.refl _ _).alloc (Nat.le_refl _) _)⟩; simp [results, Tryz.results117, go_sem, E.fieldsV, E.fId, E.fCode, E.fText, E.fBody, E.fCodes, E.fLeast, E.fMost, E.okK]))
    | (have e : k = 3 := eq_of_beq (by assumption); subst e; (refine bodyPost_ret (v := .tuple #[E.fieldsV 3, .bool (decide (E.okK 3))]) ?_ rfl ⟨rfl, ((Below.refl _ _).alloc (Nat.le_refl _) _)⟩; simp [results, Tryz.results117, go_sem, E.fieldsV, E.fId, E.fCode, E.fText, E.fBody, E.fCodes, E.fLeast, E.fMost, E.okK]))
    | (have e : k = 4 := eq_of_beq (by assumption); subst e; (refine bodyPost_ret (v := .tuple #[E.fieldsV 4, .bool (decide (E.okK 4))]) ?_ rfl ⟨rfl, ((Below.refl _ _).alloc (Nat.le_refl _) _)⟩; simp [results, Tryz.results117, go_sem, E.fieldsV, E.fId, E.fCode, E.fText, E.fBody, E.fCodes, E.fLeast, E.fMost, E.okK]))
    | (have e : k = 5 := eq_of_beq (by assumption); subst e; (refine bodyPost_ret (v := .tuple #[E.fieldsV 5, .bool (decide (E.okK 5))]) ?_ rfl ⟨rfl, ((Below.refl _ _).alloc (Nat.le_refl _) _)⟩; simp [results, Tryz.results117, go_sem, E.fieldsV, E.fId, E.fCode, E.fText, E.fBody, E.fCodes, E.fLeast, E.fMost, E.okK]))
    | (have e : k = 6 := eq_of_beq (by assumption); subst e; (refine bodyPost_ret (v := .tuple #[E.fieldsV 6, .bool (decide (E.okK 6))]) ?_ rfl ⟨rfl, ((Below.refl _ _).alloc (Nat.le_refl _) _)⟩; simp [results, Tryz.results117, go_sem, E.fieldsV, E.fId, E.fCode, E.fText, E.fBody, E.fCodes, E.fLeast, E.fMost, E.okK]))
    | (have e : k = 7 := eq_of_beq (by assumption); subst e; (refine bodyPost_ret (v := .tuple #[E.fieldsV 7, .bool (decide (E.okK 7))]) ?_ rfl ⟨rfl, ((Below.refl _ _).alloc (Nat.le_refl _) _)⟩; simp [results, Tryz.results117, go_sem, E.fieldsV, E.fId, E.fCode, E.fText, E.fBody, E.fCodes, E.fLeast, E.fMost, E.okK]))
    | (have e : k = 8 := eq_of_beq (by assumption); subst e; (refine bodyPost_ret (v := .tuple #[E.fieldsV 8, .bool (decide (E.okK 8))]) ?_ rfl ⟨rfl, ((Below.refl _ _).alloc (Nat.le_refl _) _)⟩; simp [results, Tryz.results117, go_sem, E.fieldsV, E.fId, E.fCode, E.fText, E.fBody, E.fCodes, E.fLeast, E.fMost, E.okK]))
    | (have e : k = 9 := eq_of_beq (by assumption); subst e; (refine bodyPost_ret (v := .tuple #[E.fieldsV 9, .bool (decide (E.okK 9))]) ?_ rfl ⟨rfl, ((Below.refl _ _).alloc (Nat.le_refl _) _)⟩; simp [results, Tryz.results117, go_sem, E.fieldsV, E.fId, E.fCode, E.fText, E.fBody, E.fCodes, E.fLeast, E.fMost, E.okK]))
    | (have e : k = 10 := eq_of_beq (by assumption); subst e; (refine bodyPost_ret (v := .tuple #[E.fieldsV 10, .bool (decide (E.okK 10))]) ?_ rfl ⟨rfl, ((Below.refl _ _).alloc (Nat.le_refl _) _)⟩; simp [results, Tryz.results117, go_sem, E.fieldsV, E.fId, E.fCode, E.fText, E.fBody, E.fCodes, E.fLeast, E.fMost, E.okK]))
    | (have h0 : k ≠ 0 ∧ k ≠ 1 ∧ k ≠ 2 ∧ k ≠ 3 ∧ k ≠ 4 ∧ k ≠ 5 ∧ k ≠ 6 ∧ k ≠ 7 ∧ k ≠ 8 ∧ k ≠ 9 ∧ k ≠ 10 := by simp only [beq_eq_false_iff_ne] at *; omega
       have hk : ¬ (0 ≤ k ∧ k ≤ 10) := by omega
       obtain ⟨a0, a1, a2, a3, a4, a5, a6, a7, a8, a9, a10⟩ := h0
       refine bodyPost_ret (v := .tuple #[E.fieldsV k, .bool (decide (E.okK k))]) ?_ rfl ⟨rfl, ((Below.refl _ _).alloc (Nat.le_refl _) _)⟩
       simp [results, Tryz.results117, go_sem, E.fieldsV, E.fId, E.fCode, E.fText, E.fBody, E.fCodes, E.fLeast, E.fMost, E.okK, a1, a2, a3, a4, a5, a6, a8, a9, a10]
       exact decide_eq_false hk)
end Go.Proofs.YtbhmeapnmpgggaaGreatDoor
/- A region that draws no order is cut behind its first operations: what stands behind is walked once (go_cut at the first part). No condition. -/
namespace Go.Proofs.YtbhmeapnmpgggaaGreatDoor
section
variable {P : Program}
theorem upon_imp {o : Oper} {a : Act} {K K' : Act → World → Prop} {Q Q' : Exit → Act → World → Prop} (hK : ∀ a w, K a w → K' a w)
    (hp : ∀ c a w, Q (.panic c) a w → Q' (.panic c) a w) (hL : LetsOut Q → LetsOut Q') (r : Result Next) (h : o.upon P a K Q r) : o.upon P a K' Q' r := by
  cases r with
  | ok n w' =>
    cases n
    case value v => exact hK _ _ h
    case skip => exact hK _ _ h
    case defer d => exact hK _ _ h
    case enter f args =>
      refine Calls.mono (show Calls P f args w' _ from h) ?_
      intro e w' hh
      cases e with
      | returned v => exact hK _ _ hh
      | panicked c => exact hp _ _ _ hh
      | outgrown => exact hL hh
    case row row args => exact Rows.mono (show Rows P row args w' _ from h) fun v w' hh => hK _ _ hh
    all_goals exact h
  | halt x w' =>
    cases x
    case panic v => exact hp _ _ _ h
    all_goals exact h
theorem wpList_ops {Q : Exit → Act → World → Prop} {ops ops' : Array Oper} : ∀ (l : List Oper) (a : Act) (w : World), (∀ o ∈ l, ∀ j b, o.guard = some (j, b) → ops[j]? = ops'[j]?) → wpList P ops Q l a w → wpList P ops' Q l a w
  | [], _, _, _, h => h
  | o :: l, a, w, hl, h => by
    have hw : Region.wanted o (yielded ops' a.tmps) = Region.wanted o (yielded ops a.tmps) := by
      unfold Region.wanted
      cases hg : o.guard with
      | none => rfl
      | some p =>
        obtain ⟨j, b⟩ := p
        have := hl o (List.mem_cons_self ..) j b hg
        simp only [yielded, this]
    have ih := fun a w => wpList_ops (Q := Q) l a w (fun o ho => hl o (List.mem_cons_of_mem _ ho))
    unfold wpList at h ⊢
    rw [hw]
    split
    · rename_i e
      rw [if_pos e] at h
      exact h.imp (fun h => upon_imp ih (fun _ _ _ h => h) (fun h => h) _ h) (fun h => h)
    · rename_i e
      rw [if_neg e] at h
      exact ih _ _ h
theorem letsOut_then {K : Act → World → Prop} {Q : Exit → Act → World → Prop} (h : LetsOut (Exit.then K Q)) : LetsOut Q := h
theorem wpList_append {Q : Exit → Act → World → Prop} {ops : Array Oper} {K : Act → World → Prop} (l2 : List Oper) (hK : ∀ a w, K a w → wpList P ops Q l2 a w) :
    ∀ (l1 : List Oper) (a : Act) (w : World), wpList P ops (Exit.then K Q) l1 a w → wpList P ops Q (l1 ++ l2) a w
  | [], _, _, h => hK _ _ h
  | o :: l1, a, w, h => by
    have ih := wpList_append l2 hK l1
    rw [List.cons_append]
    unfold wpList at h ⊢
    split
    · rename_i e
      rw [if_pos e] at h
      exact h.imp (fun h => upon_imp ih (fun _ _ _ h => h) letsOut_then _ h) (fun h => ⟨h.1, letsOut_then h.2⟩)
    · rename_i e
      rw [if_neg e] at h
      exact ih _ _ h
/-- The frame T, its slots lo to hi being whatever u says. -/
def fg (lo hi : Nat) (u : Nat → Value) : Nat → List Value → List Value
  | _, [] => []
  | i, v :: l => (if lo ≤ i ∧ i ≤ hi then u i else v) :: fg lo hi u (i + 1) l
/-- WHERE THE WAYS MEET: the frame is T but for the slots lo to hi; of these and of the world 'rel' is known. -/
def CutR (T : List Value) (D : List Deferred) (lo hi : Nat) (rel : (Nat → Value) → World → Prop) (a : Act) (w : World) : Prop :=
  ∃ u : Nat → Value, a = { tmps := (fg lo hi u 0 T).toArray, defers := D } ∧ rel u w
theorem CutR.intro {T T' : List Value} {D : List Deferred} {lo hi : Nat} {rel : (Nat → Value) → World → Prop} {w : World}
    (h1 : T' = fg lo hi (fun i => T'.getD i undef) 0 T) (h2 : rel (fun i => T'.getD i undef) w) : CutR T D lo hi rel { tmps := T'.toArray, defers := D } w :=
  ⟨_, by rw [← h1], h2⟩
/-- Slot i holds a bool, the world is W: the bool is true just if C does not hold. -/
def BoolAt (i : Nat) (W : World) (C : Prop) (u : Nat → Value) (wx : World) : Prop := ∃ x : Bool, u i = .bool x ∧ W = wx ∧ (x = true ↔ ¬ C)
/-- THE CUT behind the first n operations of what is left of a region. -/
theorem wpList_cut {Q : Exit → Act → World → Prop} {ops : Array Oper} {l : List Oper} {T : List Value} {D : List Deferred} {w : World} (n lo hi : Nat) (rel : (Nat → Value) → World → Prop)
    (first : wpList P ops (Exit.then (CutR T D lo hi rel) Q) (l.take n) { tmps := T.toArray, defers := D } w)
    (rest : ∀ u wx, rel u wx → wpList P ops Q (l.drop n) { tmps := (fg lo hi u 0 T).toArray, defers := D } wx) : wpList P ops Q l { tmps := T.toArray, defers := D } w := by
  rw [← List.take_append_drop n l]
  exact wpList_append _ (fun a w => by rintro ⟨u, rfl, h⟩; exact rest u w h) _ _ _ first
end
end Go.Proofs.YtbhmeapnmpgggaaGreatDoor
