/- errs.Is's inner closure: the walk. Conditions: what PIs says; of two held data the callee's contract is given. -/
import Derived.Test.YtbhmeapnmpgggaaGreatDoorEqualE
import Derived.Test.YtbhmeapnmpgggaaGreatDoorMadeV
import Derived.Test.YtbhmeapnmpgggaaGreatDoorLikeIs2
import Derived.Test.YtbhmeapnmpgggaaGreatDoorWalkE
namespace Go.Proofs.YtbhmeapnmpgggaaGreatDoor
open Go.RowKit

theorem E.fit_id {e : E} (h : e.fit = true) : (E.fId e.k = true ↔ 1 ≤ e.id) ∧ (E.fId e.k = true ∨ e.id = 0) := by
  unfold E.fit E.head at h
  rw [Bool.and_eq_true, Bool.and_eq_true, Bool.and_eq_true] at h
  have := of_decide_eq_true h.1.1.2
  exact ⟨this.1, this.2.1⟩
theorem E.made_k (e : E) : e.made.k = e.k := by
  unfold E.made
  split
  · rfl
  · split
    · rename_i h; exact h.symm
    · split
      · rename_i h; exact h.symm
      · rfl
theorem E.eqr_made (bq : D → D → Bool × Bool) (e t : E) (h : e.right = true) : E.eqr bq e.made t = E.eqr bq e t := by
  have hid := E.fit_id (E.right_fit h)
  unfold E.eqr
  rw [E.made_k]
  by_cases h1 : e.k = 1 ∨ e.k = 10
  · rw [show e.made = .mk e.k 0 e.code e.t D.zero none 0 [] none 0 [] from if_pos h1, if_pos h1, if_pos h1]; rfl
  · by_cases h6 : e.k = 6
    · rw [if_neg h1, if_neg h1, if_neg (show ¬ e.k = 5 by omega), if_neg (show ¬ e.k = 5 by omega), if_pos h6, if_pos h6]
    · by_cases h7 : e.k = 7
      · have hm : e.made = .mk 7 0 0 ⟨#[]⟩ D.zero none 0 [] none 0 [] := by unfold E.made; rw [if_neg h1, if_neg h6, if_pos h7]
        have h0 : e.id = 0 := by
          rcases hid.2 with a | a
          · rw [h7] at a; cases a
          · exact a
        rw [if_neg h1, if_neg h1, if_neg (show ¬ e.k = 5 by omega), if_neg (show ¬ e.k = 5 by omega), if_neg h6, if_neg h6, hm, h0]
        rfl
      · rw [E.made_self (by omega)]

/-- what the inner closure of Is does: the state: found -/
def stIs (bq : D → D → Bool × Bool) (t : E) (s : Bool) (e : E) (_ : List Int) : Bool × Nat :=
  if t.k ≠ 6 ∧ (E.eqr bq e t).2 then (s, 2) else
  if (t.k ≠ 6 ∧ (E.eqr bq e t).1) ∨ (e.k = 8 ∧ e.saysC t) then (true, 1) else (false, 0)
/-- the contract of datum.Equal, of two right data -/
def DEq (bq : D → D → Bool × Bool) : Prop := ∀ (x y : D) (w : World), x.In w → y.In w → x.Ok → y.Ok →
  Calls Tryz.prog 89 #[x.v, y.v] w fun e w2 => e = .returned (.tuple #[.bool (bq x y).1, .int .i64 (if (bq x y).2 then 10 else 0)]) ∧ Below w.heap.size w w2

section
variable (u : Addr) (t : E) (gt gf gv : Nat) (tv : Value)
structure PIs (s : Bool) (w : World) : Prop where
  bf : Blk w gf 4 #[.bool s]
  bt : Blk w gt 29 t.cs.toArray
  bv : Blk w gv 68 #[tv]
  ev : EVn [gf] w t tv
  tin : t.In w
  sen : Sen u w
end
section
variable {u : Addr} {t : E} {gt gf gv : Nat} {tv : Value}
theorem PIs.below {s : Bool} {w w' : World} (h : PIs u t gt gf gv tv s w) (hb : Below w.heap.size w w') : PIs u t gt gf gv tv s w' :=
  ⟨h.bf.below hb h.bf.lt, h.bt.below hb h.bt.lt, h.bv.below hb h.bv.lt, h.ev.below hb, h.tin.below hb, h.sen.below hb⟩
theorem Kept.set1 {gf : Nat} {w : World} (v : Value) : Kept [gf] w (w.setCell ⟨gf, 0, none⟩ v) := (Kept.refl _ _).setCell (.inl (by simp)) v
theorem PIs.set_ {s : Bool} {w : World} (h : PIs u t gt gf gv tv s w) (h1 : gt ≠ gf) (h2 : gv ≠ gf) (h3 : t.Lo gf) (h4 : 0 < gf) (b : Bool) : PIs u t gt gf gv tv b (w.setCell ⟨gf, 0, none⟩ (.bool b)) :=
  ⟨by have := h.bf.set_ 0 (.bool b); simpa using this, h.bt.far h1 _, h.bv.far h2 _, h.ev.kept (Kept.set1 _), h.tin.below' ((Kept.set1 _).below (B := gf) (Nat.le_of_lt h.bf.lt) (by simp)) h3,
   (Kept.set1 (.bool b)).cell (by simp; omega) h.sen⟩
end
theorem EV.notLike {B : Nat} {w : World} {e : E} {v : Value} (hv : EV B w e v) (h0 : e.k ≠ 0) (hk : E.okK e.k) (h8 : e.k ≠ 8) :
    ∀ w', (Instr.typeAssert v 68 75 true).run Tryz.prog w' = .ok (.tuple #[.nilIface, .bool false]) w' := by
  unfold EV at hv
  rcases hv with ⟨a, rfl⟩ | ⟨a, g, b, rfl, d⟩ | ⟨a, g, b, rfl, d⟩ | ⟨a, g, b, rfl, d⟩ | ⟨a, g, b, rfl, d⟩ | ⟨a, rfl⟩ | ⟨a, rfl⟩ | ⟨a, g, b, rfl, d⟩ | ⟨a, g, b, rfl, d⟩ | ⟨a, rfl⟩ | ⟨a, rfl⟩
  · exact asPlain6 _
  · exact asPtr6 _
  · exact asWrap6 _
  · exact asMany6 _
  · exact asHold6 _
  · exact asList6 _
  · exact asPtr6 _
  · exact absurd a h8
  · exact asAs6 _
  · exact asTime6 _
  · exact absurd a (by rintro (a | a); exact a hk; exact h0 a)
theorem methodIs (g : Nat) : ∀ w, (method 450 113 (.pointer (some ⟨g, 0, none⟩)) "Is").run Tryz.prog w = .ok (218, .pointer (some ⟨g, 0, none⟩)) w := fun _ => by kernel_rfl
end Go.Proofs.YtbhmeapnmpgggaaGreatDoor
