/- datum.fits: the walk. Condition: the fields fit their types. -/
import Derived.Test.YtbhmeapnmpgggaaGreatDoorRight1
namespace Go.Proofs.YtbhmeapnmpgggaaGreatDoor
open Go.RowKit

def D.placesOf (k : Int) (len : Nat) : Int := if k = 8 then len else if k = 9 then 2 else if k = 11 then 1 else 0
def D.okF (p q r : Bool) (m i x : Int) (t : ByteArray) (len : Nat) : Prop := (p = true ∨ i = 0) ∧ (q = true ∨ x = 0) ∧ (r = true ∨ t.toList = []) ∧ (t.size : Int) ≤ 65535 ∧ (len : Int) = m
theorem D.head_iff' (d : D) : d.head = true ↔ D.okK d.k d.i ∧ D.okF (D.hasI d.k) (d.k == 3) (D.hasT d.k) (D.placesOf d.k d.l.length) d.i d.b d.t d.l.length := by
  rw [D.head_iff]
  have h1 : (D.partsOf d.k < 0 ∨ (d.l.length : Int) = D.partsOf d.k) ↔ ((d.l.length : Int) = D.placesOf d.k d.l.length) := by
    unfold D.partsOf D.placesOf
    by_cases h8 : d.k = 8
    · simp [h8]
    · by_cases h9 : d.k = 9
      · simp [h9]
      · by_cases h11 : d.k = 11
        · simp [h11]
        · simp [h8, h9, h11]
  simp only [D.okR, D.okF, h1]
  constructor
  · rintro ⟨a, b, c, d, e, f⟩; exact ⟨a, b, c, d, f, e⟩
  · rintro ⟨a, b, c, d, f, e⟩; exact ⟨a, b, c, d, e, f⟩

set_option maxHeartbeats 4000000 in
set_option maxRecDepth 100000 in
theorem fits0_any (d : D) (w : World) (har : d.Rng) :
    Calls Tryz.prog 129 #[d.v] w fun e w' => e = .returned (.bool d.head) ∧ Below w.heap.size w w' := by
    obtain ⟨k, i, x, t, A, c, l⟩ := d
    simp only [D.k_mk, D.i_mk, D.b_mk, D.t_mk, D.l_mk, D.c_mk, D.Rng] at har
    have hh := D.head_iff' (.mk k i x t A c l)
    simp only [D.k_mk, D.i_mk, D.b_mk, D.t_mk, D.l_mk] at hh
    simp only [D.v, D.cs, D.k_mk, D.i_mk, D.b_mk, D.t_mk, D.l_mk, D.c_mk, D.A_mk]
    generalize (D.mk k i x t A c l).head = hd at hh
    have Hh := Lib.hid hh
    clear hh
    go_enter Tryz.func129, Tryz.ntmps129
    go_upto_block 0 with fail
    have hb0 := Lib.hid (show Below w.heap.size w (w.alloc (.cells #[Value.int IntKind.i64 k, Value.int IntKind.i64 i, Value.int IntKind.u64 x, Value.string t, Value.slice A l.length c] 25)) from (Below.refl _ _).alloc (Nat.le_refl _) _)
    go_cut [3, 4, 5, 6] (fun s3 s4 s5 s6 wx => s3 = .bool (D.hasI k) ∧ s4 = .bool (k == 3) ∧ s5 = .bool (D.hasT k) ∧ s6 = .int .i64 (D.placesOf k l.length) ∧ (w.alloc (.cells #[Value.int IntKind.i64 k, Value.int IntKind.i64 i, Value.int IntKind.u64 x, Value.string t, Value.slice A l.length c] 25)) = wx ∧ Hid (D.okK k i))
    case first =>
      go_wp2_with fail
      all_goals first
        | (go_ret
           refine ⟨?_, hb0.out⟩
           have e : hd = false := by
             cases hd
             · rfl
             · exfalso
               obtain ⟨⟨e1, e2, e3, e4⟩, _⟩ := Hh.out.1 rfl
               simp only [beq_eq_false_iff_ne, beq_iff_eq, bne_iff_ne, ne_eq] at *
               omega
           rw [e]; rfl)
        | ((try subst_vars); go_meet; case rel => first
            | (have e : k = 0 := eq_of_beq (by assumption); subst e; exact ⟨rfl, rfl, rfl, rfl, rfl, by unfold Hid D.okK; refine ⟨by decide, by decide, ?_, ?_⟩ <;> (intro h; first | (exact absurd h (by decide)) | assumption | omega)⟩)
            | (have e : k = 1 := eq_of_beq (by assumption); subst e; exact ⟨rfl, rfl, rfl, rfl, rfl, by unfold Hid D.okK; refine ⟨by decide, by decide, ?_, ?_⟩ <;> (intro h; first | (exact absurd h (by decide)) | assumption | omega)⟩)
            | (have e : k = 2 := eq_of_beq (by assumption); subst e; exact ⟨rfl, rfl, rfl, rfl, rfl, by unfold Hid D.okK; refine ⟨by decide, by decide, ?_, ?_⟩ <;> (intro h; first | (exact absurd h (by decide)) | assumption | omega)⟩)
            | (have e : k = 3 := eq_of_beq (by assumption); subst e; exact ⟨rfl, rfl, rfl, rfl, rfl, by unfold Hid D.okK; refine ⟨by decide, by decide, ?_, ?_⟩ <;> (intro h; first | (exact absurd h (by decide)) | assumption | omega)⟩)
            | (have e : k = 4 := eq_of_beq (by assumption); subst e; exact ⟨rfl, rfl, rfl, rfl, rfl, by unfold Hid D.okK; refine ⟨by decide, by decide, ?_, ?_⟩ <;> (intro h; first | (exact absurd h (by decide)) | assumption | omega)⟩)
            | (have e : k = 5 := eq_of_beq (by assumption); subst e; exact ⟨rfl, rfl, rfl, rfl, rfl, by unfold Hid D.okK; refine ⟨by decide, by decide, ?_, ?_⟩ <;> (intro h; first | (exact absurd h (by decide)) | assumption | omega)⟩)
            | (have e : k = 7 := eq_of_beq (by assumption); subst e; exact ⟨rfl, rfl, rfl, rfl, rfl, by unfold Hid D.okK; refine ⟨by decide, by decide, ?_, ?_⟩ <;> (intro h; first | (exact absurd h (by decide)) | assumption | omega)⟩)
            | (have e : k = 8 := eq_of_beq (by assumption); subst e; exact ⟨rfl, rfl, rfl, rfl, rfl, by unfold Hid D.okK; refine ⟨by decide, by decide, ?_, ?_⟩ <;> (intro h; first | (exact absurd h (by decide)) | assumption | omega)⟩)
            | (have e : k = 9 := eq_of_beq (by assumption); subst e; exact ⟨rfl, rfl, rfl, rfl, rfl, by unfold Hid D.okK; refine ⟨by decide, by decide, ?_, ?_⟩ <;> (intro h; first | (exact absurd h (by decide)) | assumption | omega)⟩)
            | (have e : k = 10 := eq_of_beq (by assumption); subst e; exact ⟨rfl, rfl, rfl, rfl, rfl, by unfold Hid D.okK; refine ⟨by decide, by decide, ?_, ?_⟩ <;> (intro h; first | (exact absurd h (by decide)) | assumption | omega)⟩)
            | (have e : k = 11 := eq_of_beq (by assumption); subst e; exact ⟨rfl, rfl, rfl, rfl, rfl, by unfold Hid D.okK; refine ⟨by decide, by decide, ?_, ?_⟩ <;> (intro h; first | (exact absurd h (by decide)) | assumption | omega)⟩)
            | (have e : k = 12 := eq_of_beq (by assumption); subst e; exact ⟨rfl, rfl, rfl, rfl, rfl, by unfold Hid D.okK; refine ⟨by decide, by decide, ?_, ?_⟩ <;> (intro h; first | (exact absurd h (by decide)) | assumption | omega)⟩)
            | (have e : k = 13 := eq_of_beq (by assumption); subst e; exact ⟨rfl, rfl, rfl, rfl, rfl, by unfold Hid D.okK; refine ⟨by decide, by decide, ?_, ?_⟩ <;> (intro h; first | (exact absurd h (by decide)) | assumption | omega)⟩)
            | (have e : k = 6 := eq_of_beq (by assumption); subst e; refine ⟨rfl, rfl, rfl, rfl, rfl, ?_⟩; unfold Hid D.okK; refine ⟨by decide, by decide, fun _ => ?_, fun h => absurd h (by decide)⟩; simp_all; done))
    case rest =>
      obtain ⟨rfl, rfl, rfl, rfl, rfl, hk⟩ := hcut
      have hm : 0 ≤ D.placesOf k l.length ∧ D.placesOf k l.length ≤ 9223372036854775807 := by unfold D.placesOf; split; omega; split; omega; split <;> omega
      generalize D.hasI k = p at *
      generalize (k == 3) = q at *
      generalize D.hasT k = r' at *
      generalize D.placesOf k l.length = m at *
      cases p <;> cases q <;> cases r'
      all_goals go_wp2_with fail
      all_goals
        (try subst_vars)
        go_ret
        refine ⟨congrArg (fun b => Ending.returned (.bool b)) ?_, hb0.out⟩
        have h1 := Hh.out
        have h2 := hk.out
        rw [Bool.eq_iff_iff, h1]
        unfold D.okF
        simp [*]
        try omega
end Go.Proofs.YtbhmeapnmpgggaaGreatDoor
