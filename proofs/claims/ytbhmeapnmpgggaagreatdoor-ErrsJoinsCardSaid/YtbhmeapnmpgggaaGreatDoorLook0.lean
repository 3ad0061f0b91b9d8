/- conduitref01.right: the walk. Condition: the tree lies in the world. -/
import Derived.Test.YtbhmeapnmpgggaaGreatDoorKit
namespace Go.Proofs.YtbhmeapnmpgggaaGreatDoor
open Go.RowKit

def D.partsOf (k : Int) : Int := if k = 8 then -1 else if k = 9 then 2 else if k = 11 then 1 else 0
def D.okK (k i : Int) : Prop := 0 ≤ k ∧ k ≤ 13 ∧ (k = 6 → i = 0 ∨ i = 1) ∧ (k = 11 → 1 ≤ i)
def D.okR (p q r : Bool) (m i x : Int) (t : ByteArray) (len : Nat) : Prop := (p = true ∨ i = 0) ∧ (q = true ∨ x = 0) ∧ (r = true ∨ t.toList = []) ∧ (m < 0 ∨ (len : Int) = m) ∧ (t.size : Int) ≤ 65535
theorem D.head_iff (d : D) : d.head = true ↔ D.okK d.k d.i ∧ D.okR (D.hasI d.k) (d.k == 3) (D.hasT d.k) (D.partsOf d.k) d.i d.b d.t d.l.length := by
  have e : d.t.toList = [] ↔ d.t.size = 0 := by
    rw [ByteArray.toList_eq]; cases d.t with | mk a => simp [ByteArray.size]
  simp only [D.head, decide_eq_true_eq, D.okK, D.okR, beq_iff_eq, e]
  have h1 : (d.k = 8 ∨ d.l.length = if d.k = 9 then 2 else if d.k = 11 then 1 else 0) ↔ (D.partsOf d.k < 0 ∨ (d.l.length : Int) = D.partsOf d.k) := by
    unfold D.partsOf
    by_cases h8 : d.k = 8
    · simp [h8]
    · by_cases h9 : d.k = 9
      · simp [h9]; omega
      · by_cases h11 : d.k = 11
        · simp [h11]; omega
        · simp [h8, h9, h11]
  rw [h1]
  constructor
  · rintro ⟨a1, a2, a3, a4, a5, a6, a7, a8, a9⟩
    exact ⟨⟨a1, a2, a3, a4⟩, a5, a6, a7, a8, by omega⟩
  · rintro ⟨⟨a1, a2, a3, a4⟩, a5, a6, a7, a8, a9⟩
    exact ⟨a1, a2, a3, a4, a5, a6, a7, a8, by omega⟩

set_option maxHeartbeats 4000000 in
set_option maxRecDepth 100000 in
theorem right1_any (n : Nat) : ∀ (d : D) (w : World), d.size ≤ n → d.In w →
    Calls Tryz.prog 114 #[d.v] w fun e w' => e = .returned (.bool d.right) ∧ Below w.heap.size w w' := by
  induction n with
  | zero => intro d w h; rw [D.size_eq] at h; omega
  | succ n ih =>
    intro d w hn ha
    obtain ⟨k, i, x, t, A, c, l⟩ := d
    have har := ha.rng
    simp only [D.k_mk, D.i_mk, D.b_mk, D.t_mk, D.l_mk, D.c_mk, D.Rng] at har
    have hsn : D.sizeL l ≤ n := by simp only [D.size] at hn; omega
    have hh := D.head_iff (.mk k i x t A c l)
    have hr : (D.mk k i x t A c l).right = ((D.mk k i x t A c l).head && D.rightL l) := D.right.eq_1 ..
    simp only [D.k_mk, D.i_mk, D.b_mk, D.t_mk, D.l_mk] at hh
    simp only [D.v, D.cs, D.k_mk, D.i_mk, D.b_mk, D.t_mk, D.l_mk, D.c_mk, D.A_mk]
    generalize (D.mk k i x t A c l).right = r at hr
    generalize (D.mk k i x t A c l).head = hd at hh hr
    have Hh := Lib.hid hh
    have Hr := Lib.hid hr
    clear hh hr hn
    go_enter Tryz.func114, Tryz.ntmps114
    go_upto_block 0 with fail
    have hb0 := Lib.hid (show Below w.heap.size w (w.alloc (.cells #[Value.int IntKind.i64 k, Value.int IntKind.i64 i, Value.int IntKind.u64 x, Value.string t, Value.slice A l.length c] 25)) from (Below.refl _ _).alloc (Nat.le_refl _) _)
    go_cut [3, 4, 5, 6] (fun s3 s4 s5 s6 wx => s3 = .bool (D.hasI k) ∧ s4 = .bool (k == 3) ∧ s5 = .bool (D.hasT k) ∧ s6 = .int .i64 (D.partsOf k) ∧ (w.alloc (.cells #[Value.int IntKind.i64 k, Value.int IntKind.i64 i, Value.int IntKind.u64 x, Value.string t, Value.slice A l.length c] 25)) = wx ∧ Hid (D.okK k i))
    case first =>
      clear ih hsn ha
      go_wp2_with fail
      all_goals first
        | (go_ret
           refine ⟨?_, hb0.out⟩
           rw [Hr.out]
           have e : hd = false := by
             cases hd
             · rfl
             · exfalso
               obtain ⟨⟨e1, e2, e3, e4⟩, _⟩ := Hh.out.1 rfl
               simp only [beq_eq_false_iff_ne, beq_iff_eq, bne_iff_ne, ne_eq] at *
               omega
           rw [e]; rfl)
        | ((try subst_vars); go_meet; case rel => first
            | (have e : k = 0 := eq_of_beq (by assumption); subst e; exact ⟨rfl, rfl, rfl, rfl, rfl, by unfold Hid D.okK; refine ⟨by decide, by decide, ?_, ?_⟩ <;> (intro h; first | (exact absurd h (by decide)) | assumption | omega)⟩)
            | (have e : k = 1 := eq_of_beq (by assumption); subst e; exact ⟨rfl, rfl, rfl, rfl, rfl, by unfold Hid D.okK; refine ⟨by decide, by decide, ?_, ?_⟩ <;> (intro h; first | (exact absurd h (by decide)) | assumption | omega)⟩)
            | (have e : k = 2 := eq_of_beq (by assumption); subst e; exact ⟨rfl, rfl, rfl, rfl, rfl, by unfold Hid D.okK; refine ⟨by decide, by decide, ?_, ?_⟩ <;> (intro h; first | (exact absurd h (by decide)) | assumption | omega)⟩)
            | (have e : k = 3 := eq_of_beq (by assumption); subst e; exact ⟨rfl, rfl, rfl, rfl, rfl, by unfold Hid D.okK; refine ⟨by decide, by decide, ?_, ?_⟩ <;> (intro h; first | (exact absurd h (by decide)) | assumption | omega)⟩)
            | (have e : k = 4 := eq_of_beq (by assumption); subst e; exact ⟨rfl, rfl, rfl, rfl, rfl, by unfold Hid D.okK; refine ⟨by decide, by decide, ?_, ?_⟩ <;> (intro h; first | (exact absurd h (by decide)) | assumption | omega)⟩)
            | (have e : k = 5 := eq_of_beq (by assumption); subst e; exact ⟨rfl, rfl, rfl, rfl, rfl, by unfold Hid D.okK; refine ⟨by decide, by decide, ?_, ?_⟩ <;> (intro h; first | (exact absurd h (by decide)) | assumption | omega)⟩)
            | (have e : k = 7 := eq_of_beq (by assumption); subst e; exact ⟨rfl, rfl, rfl, rfl, rfl, by unfold Hid D.okK; refine ⟨by decide, by decide, ?_, ?_⟩ <;> (intro h; first | (exact absurd h (by decide)) | assumption | omega)⟩)
            | (have e : k = 8 := eq_of_beq (by assumption); subst e; exact ⟨rfl, rfl, rfl, rfl, rfl, by unfold Hid D.okK; refine ⟨by decide, by decide, ?_, ?_⟩ <;> (intro h; first | (exact absurd h (by decide)) | assumption | omega)⟩)
            | (have e : k = 9 := eq_of_beq (by assumption); subst e; exact ⟨rfl, rfl, rfl, rfl, rfl, by unfold Hid D.okK; refine ⟨by decide, by decide, ?_, ?_⟩ <;> (intro h; first | (exact absurd h (by decide)) | assumption | omega)⟩)
            | (have e : k = 10 := eq_of_beq (by assumption); subst e; exact ⟨rfl, rfl, rfl, rfl, rfl, by unfold Hid D.okK; refine ⟨by decide, by decide, ?_, ?_⟩ <;> (intro h; first | (exact absurd h (by decide)) | assumption | omega)⟩)
            | (have e : k = 11 := eq_of_beq (by assumption); subst e; exact ⟨rfl, rfl, rfl, rfl, rfl, by unfold Hid D.okK; refine ⟨by decide, by decide, ?_, ?_⟩ <;> (intro h; first | (exact absurd h (by decide)) | assumption | omega)⟩)
            | (have e : k = 12 := eq_of_beq (by assumption); subst e; exact ⟨rfl, rfl, rfl, rfl, rfl, by unfold Hid D.okK; refine ⟨by decide, by decide, ?_, ?_⟩ <;> (intro h; first | (exact absurd h (by decide)) | assumption | omega)⟩)
            | (have e : k = 13 := eq_of_beq (by assumption); subst e; exact ⟨rfl, rfl, rfl, rfl, rfl, by unfold Hid D.okK; refine ⟨by decide, by decide, ?_, ?_⟩ <;> (intro h; first | (exact absurd h (by decide)) | assumption | omega)⟩)
            | (have e : k = 6 := eq_of_beq (by assumption); subst e; refine ⟨rfl, rfl, rfl, rfl, rfl, ?_⟩; unfold Hid D.okK; refine ⟨by decide, by decide, fun _ => ?_, fun h => absurd h (by decide)⟩; simp_all; done))
    case rest =>
      obtain ⟨rfl, rfl, rfl, rfl, rfl, hk⟩ := hcut
      have hm : -1 ≤ D.partsOf k ∧ D.partsOf k ≤ 2 := by unfold D.partsOf; split; omega; split; omega; split <;> omega
      generalize D.hasI k = p at *
      generalize (k == 3) = q at *
      generalize D.hasT k = r' at *
      generalize D.partsOf k = m at *
      go_upto_region 32 with fail
      go_cut [3, 4, 5, 6, 85] (fun _ _ _ _ s85 wx => ∃ b : Bool, s85 = .bool b ∧ (w.alloc (.cells #[Value.int IntKind.i64 k, Value.int IntKind.i64 i, Value.int IntKind.u64 x, Value.string t, Value.slice A l.length c] 25)) = wx ∧ Hid (b = true ↔ ¬ D.okR p q r' m i x t l.length))
      case first =>
        clear ih hsn ha
        cases p <;> cases q <;> cases r'
        all_goals go_wp2_with fail
        all_goals
          subst_vars
          go_meet
          case rel =>
            refine ⟨_, rfl, rfl, ?_⟩
            unfold Hid D.okR
            simp [*]
            try omega
      case rest =>
        obtain ⟨b, rfl, rfl, hb⟩ := hcut
        cases b
        · have hd1 : hd = true := Hh.out.2 ⟨hk.out, Classical.not_not.1 (fun h => by simpa using hb.out.2 h)⟩
          rw [hd1, Bool.true_and] at Hr
          go_wp2_with fail
          go_loopg [89] l.length (fun g s wr => ∃ j : Nat, s = .int .i64 j ∧ j + g = l.length ∧ Below w.heap.size w wr ∧ w.heap.size + 1 ≤ wr.heap.size ∧ wr.cell? ⟨w.heap.size, 4, none⟩ = some (Value.slice A l.length c) ∧ Hid (D.rightL (l.drop j) = D.rightL l))
          case atStart => exact ⟨0, rfl, by omega, hb0.out, by simp, by simp [go_sem], by simp [Hid]⟩
          case round =>
            obtain ⟨j, rfl, hj, hbel, hz, ca, hinv⟩ := hrel
            by_cases hlt : j < l.length
            · obtain ⟨x', ex⟩ : ∃ x', l[j]? = some x' := ⟨_, List.getElem?_eq_getElem hlt⟩
              obtain ⟨⟨ad, rfl, h1⟩, ha'⟩ := ha.at_ (q := j) ex
              obtain ⟨p0, p1, p2, p3, p4⟩ := (h1.below hbel).five
              have hx : x'.size ≤ n := Nat.le_trans (D.sizeL_le ex) hsn
              have ha1 := ha'.below hbel
              have hst := Lib.hid (show D.rightL (l.drop j) = (x'.right && D.rightL (l.drop (j + 1))) by rw [drop_of_get ex]; rfl)
              clear h1 ha ha' hb0 ex
              have hbel' := Lib.hid hbel
              clear hbel
              go_wp2_with fail
              refine (ih x' wr hx ha1).mono ?_
              rintro e w1 ⟨rfl, hbw⟩
              have cc := (hbw.cell (p := ⟨w.heap.size, 4, none⟩) (show w.heap.size < wr.heap.size by omega)).trans ca
              have hz1 : wr.heap.size ≤ w1.heap.size := hbw.size
              have hbb := Lib.hid (hbel'.out.trans (hbw.mono (show w.heap.size ≤ wr.heap.size by omega)))
              clear hbw
              cases hs : x'.right
              · go_wp2_with fail
                go_ret
                exact ⟨by rw [Hr.out, ← hinv.out, hst.out, hs] <;> rfl, hbb.out⟩
              · go_wp2_with fail
                go_roundg (gk - 1)
                case measure => omega
                case rel => exact ⟨j + 1, by go_num, by omega, hbb.out, by omega, cc, by unfold Hid; rw [← hinv.out, hst.out, hs] <;> rfl⟩
            · have hbel' := Lib.hid hbel
              clear hbel hb0 ha
              go_wp2_with fail
              go_ret
              refine ⟨?_, hbel'.out⟩
              rw [Hr.out, ← hinv.out, List.drop_eq_nil_of_le (by omega)] <;> rfl
        · go_wp2_with fail
          go_ret
          refine ⟨?_, hb0.out⟩
          have e : hd = false := by
            cases hd
            · rfl
            · exact absurd (Hh.out.1 rfl).2 (hb.out.1 (by simp))
          rw [Hr.out, e] <;> rfl
end Go.Proofs.YtbhmeapnmpgggaaGreatDoor
/- datum.fits: the walk. Condition: the fields fit their types. -/
namespace Go.Proofs.YtbhmeapnmpgggaaGreatDoor
open Go.RowKit

def D.placesOf (k : Int) (len : Nat) : Int := if k = 8 then len else if k = 9 then 2 else if k = 11 then 1 else 0
def D.okF (p q r : Bool) (m i x : Int) (t : ByteArray) (len : Nat) : Prop := (p = true ∨ i = 0) ∧ (q = true ∨ x = 0) ∧ (r = true ∨ t.toList = []) ∧ (t.size : Int) ≤ 65535 ∧ (len : Int) = m
theorem D.head_iff' (d : D) : d.head = true ↔ D.okK d.k d.i ∧ D.okF (D.hasI d.k) (d.k == 3) (D.hasT d.k) (D.placesOf d.k d.l.length) d.i d.b d.t d.l.length := by
  rw [D.head_iff]
  have h1 : (D.partsOf d.k < 0 ∨ (d.l.length : Int) = D.partsOf d.k) ↔ ((d.l.length : Int) = D.placesOf d.k d.l.length) := by
    unfold D.partsOf D.placesOf
    by_cases h8 : d.k = 8
    · simp [h8]
    · by_cases h9 : d.k = 9
      · simp [h9]
      · by_cases h11 : d.k = 11
        · simp [h11]
        · simp [h8, h9, h11]
  simp only [D.okR, D.okF, h1]
  constructor
  · rintro ⟨a, b, c, d, e, f⟩; exact ⟨a, b, c, d, f, e⟩
  · rintro ⟨a, b, c, d, f, e⟩; exact ⟨a, b, c, d, e, f⟩

set_option maxHeartbeats 4000000 in
set_option maxRecDepth 100000 in
theorem fits0_any (d : D) (w : World) (har : d.Rng) :
    Calls Tryz.prog 129 #[d.v] w fun e w' => e = .returned (.bool d.head) ∧ Below w.heap.size w w' := by
    obtain ⟨k, i, x, t, A, c, l⟩ := d
    simp only [D.k_mk, D.i_mk, D.b_mk, D.t_mk, D.l_mk, D.c_mk, D.Rng] at har
    have hh := D.head_iff' (.mk k i x t A c l)
    simp only [D.k_mk, D.i_mk, D.b_mk, D.t_mk, D.l_mk] at hh
    simp only [D.v, D.cs, D.k_mk, D.i_mk, D.b_mk, D.t_mk, D.l_mk, D.c_mk, D.A_mk]
    generalize (D.mk k i x t A c l).head = hd at hh
    have Hh := Lib.hid hh
    clear hh
    go_enter Tryz.func129, Tryz.ntmps129
    go_upto_block 0 with fail
    have hb0 := Lib.hid (show Below w.heap.size w (w.alloc (.cells #[Value.int IntKind.i64 k, Value.int IntKind.i64 i, Value.int IntKind.u64 x, Value.string t, Value.slice A l.length c] 25)) from (Below.refl _ _).alloc (Nat.le_refl _) _)
    go_cut [3, 4, 5, 6] (fun s3 s4 s5 s6 wx => s3 = .bool (D.hasI k) ∧ s4 = .bool (k == 3) ∧ s5 = .bool (D.hasT k) ∧ s6 = .int .i64 (D.placesOf k l.length) ∧ (w.alloc (.cells #[Value.int IntKind.i64 k, Value.int IntKind.i64 i, Value.int IntKind.u64 x, Value.string t, Value.slice A l.length c] 25)) = wx ∧ Hid (D.okK k i))
    case first =>
      go_wp2_with fail
      all_goals first
        | (go_ret
           refine ⟨?_, hb0.out⟩
           have e : hd = false := by
             cases hd
             · rfl
             · exfalso
               obtain ⟨⟨e1, e2, e3, e4⟩, _⟩ := Hh.out.1 rfl
               simp only [beq_eq_false_iff_ne, beq_iff_eq, bne_iff_ne, ne_eq] at *
               omega
           rw [e]; rfl)
        | ((try subst_vars); go_meet; case rel => first
            | (have e : k = 0 := eq_of_beq (by assumption); subst e; exact ⟨rfl, rfl, rfl, rfl, rfl, by unfold Hid D.okK; refine ⟨by decide, by decide, ?_, ?_⟩ <;> (intro h; first | (exact absurd h (by decide)) | assumption | omega)⟩)
            | (have e : k = 1 := eq_of_beq (by assumption); subst e; exact ⟨rfl, rfl, rfl, rfl, rfl, by unfold Hid D.okK; refine ⟨by decide, by decide, ?_, ?_⟩ <;> (intro h; first | (exact absurd h (by decide)) | assumption | omega)⟩)
            | (have e : k = 2 := eq_of_beq (by assumption); subst e; exact ⟨rfl, rfl, rfl, rfl, rfl, by unfold Hid D.okK; refine ⟨by decide, by decide, ?_, ?_⟩ <;> (intro h; first | (exact absurd h (by decide)) | assumption | omega)⟩)
            | (have e : k = 3 := eq_of_beq (by assumption); subst e; exact ⟨rfl, rfl, rfl, rfl, rfl, by unfold Hid D.okK; refine ⟨by decide, by decide, ?_, ?_⟩ <;> (intro h; first | (exact absurd h (by decide)) | assumption | omega)⟩)
            | (have e : k = 4 := eq_of_beq (by assumption); subst e; exact ⟨rfl, rfl, rfl, rfl, rfl, by unfold Hid D.okK; refine ⟨by decide, by decide, ?_, ?_⟩ <;> (intro h; first | (exact absurd h (by decide)) | assumption | omega)⟩)
            | (have e : k = 5 := eq_of_beq (by assumption); subst e; exact ⟨rfl, rfl, rfl, rfl, rfl, by unfold Hid D.okK; refine ⟨by decide, by decide, ?_, ?_⟩ <;> (intro h; first | (exact absurd h (by decide)) | assumption | omega)⟩)
            | (have e : k = 7 := eq_of_beq (by assumption); subst e; exact ⟨rfl, rfl, rfl, rfl, rfl, by unfold Hid D.okK; refine ⟨by decide, by decide, ?_, ?_⟩ <;> (intro h; first | (exact absurd h (by decide)) | assumption | omega)⟩)
            | (have e : k = 8 := eq_of_beq (by assumption); subst e; exact ⟨rfl, rfl, rfl, rfl, rfl, by unfold Hid D.okK; refine ⟨by decide, by decide, ?_, ?_⟩ <;> (intro h; first | (exact absurd h (by decide)) | assumption | omega)⟩)
            | (have e : k = 9 := eq_of_beq (by assumption); subst e; exact ⟨rfl, rfl, rfl, rfl, rfl, by unfold Hid D.okK; refine ⟨by decide, by decide, ?_, ?_⟩ <;> (intro h; first | (exact absurd h (by decide)) | assumption | omega)⟩)
            | (have e : k = 10 := eq_of_beq (by assumption); subst e; exact ⟨rfl, rfl, rfl, rfl, rfl, by unfold Hid D.okK; refine ⟨by decide, by decide, ?_, ?_⟩ <;> (intro h; first | (exact absurd h (by decide)) | assumption | omega)⟩)
            | (have e : k = 11 := eq_of_beq (by assumption); subst e; exact ⟨rfl, rfl, rfl, rfl, rfl, by unfold Hid D.okK; refine ⟨by decide, by decide, ?_, ?_⟩ <;> (intro h; first | (exact absurd h (by decide)) | assumption | omega)⟩)
            | (have e : k = 12 := eq_of_beq (by assumption); subst e; exact ⟨rfl, rfl, rfl, rfl, rfl, by unfold Hid D.okK; refine ⟨by decide, by decide, ?_, ?_⟩ <;> (intro h; first | (exact absurd h (by decide)) | assumption | omega)⟩)
            | (have e : k = 13 := eq_of_beq (by assumption); subst e; exact ⟨rfl, rfl, rfl, rfl, rfl, by unfold Hid D.okK; refine ⟨by decide, by decide, ?_, ?_⟩ <;> (intro h; first | (exact absurd h (by decide)) | assumption | omega)⟩)
            | (have e : k = 6 := eq_of_beq (by assumption); subst e; refine ⟨rfl, rfl, rfl, rfl, rfl, ?_⟩; unfold Hid D.okK; refine ⟨by decide, by decide, fun _ => ?_, fun h => absurd h (by decide)⟩; simp_all; done))
    case rest =>
      obtain ⟨rfl, rfl, rfl, rfl, rfl, hk⟩ := hcut
      have hm : 0 ≤ D.placesOf k l.length ∧ D.placesOf k l.length ≤ 9223372036854775807 := by unfold D.placesOf; split; omega; split; omega; split <;> omega
      generalize D.hasI k = p at *
      generalize (k == 3) = q at *
      generalize D.hasT k = r' at *
      generalize D.placesOf k l.length = m at *
      cases p <;> cases q <;> cases r'
      all_goals go_wp2_with fail
      all_goals
        (try subst_vars)
        go_ret
        refine ⟨congrArg (fun b => Ending.returned (.bool b)) ?_, hb0.out⟩
        have h1 := Hh.out
        have h2 := hk.out
        rw [Bool.eq_iff_iff, h1]
        unfold D.okF
        simp [*]
        try omega
end Go.Proofs.YtbhmeapnmpgggaaGreatDoor
/- datum.look: the walk. Conditions: the tree lies in the world below B, the two counters are two blocks of one int each from B on, the count is at most 4096. -/
namespace Go.Proofs.YtbhmeapnmpgggaaGreatDoor
open Go.RowKit

set_option maxHeartbeats 1000000 in
set_option maxRecDepth 100000 in
theorem look0_any (n : Nat) : ∀ (d : D) (deep p m : Int) (B pb mb : Nat) (w : World), d.size ≤ n → d.In w → d.Lo B → B ≤ pb → B ≤ mb → pb ≠ mb → 
    Blk w pb 3 #[.int .i64 p] → Blk w mb 3 #[.int .i64 m] → 0 ≤ deep → deep ≤ 17 → 0 ≤ p → p ≤ 4096 → 0 ≤ m → m ≤ 17 →
    Calls Tryz.prog 101 #[d.v, .int .i64 deep, .pointer (some ⟨pb, 0, none⟩), .pointer (some ⟨mb, 0, none⟩)] w fun e w' => e = .returned (.bool (d.look deep p m).1) ∧ 
      Blk w' pb 3 #[.int .i64 (d.look deep p m).2.1] ∧ Blk w' mb 3 #[.int .i64 (d.look deep p m).2.2] ∧ Kept [pb, mb] w w' := by
  induction n with
  | zero => intro d _ _ _ _ _ _ w h; rw [D.size_eq] at h; omega
  | succ n ih =>
    intro d deep p m B pb mb w hn ha hlo hpb hmb hne bp bm hd0 hd1 hp0 hp1 hm0 hm1
    have hf := fits0_any d
    obtain ⟨k, i, x, t, A, c, l⟩ := d
    have har := ha.rng
    have hsn : D.sizeL l ≤ n := by simp only [D.size] at hn; omega
    have hq : D.look (.mk k i x t A c l) deep p m = if 4096 < p + 1 ∨ 16 < deep ∨ (D.mk k i x t A c l).head = false then (false, p + 1, max m deep) else D.lookL l (deep + 1) (p + 1) (max m deep) := by rw [D.look]
    have hz0 := bp.lt
    have hz1 := bm.lt
    have c1 := bp.cell 0
    have c2 := bm.cell 0
    have f1 := bp.frozen 0
    have f2 := bm.frozen 0
    have hF := Lib.hid (fun w => hf w har)
    clear hf
    simp only [D.k_mk, D.i_mk, D.b_mk, D.t_mk, D.l_mk, D.c_mk, D.Rng] at har
    simp only [D.v, D.cs, D.k_mk, D.i_mk, D.b_mk, D.t_mk, D.l_mk, D.c_mk, D.A_mk] at hF ⊢
    generalize D.look (.mk k i x t A c l) deep p m = r at hq ⊢
    generalize (D.mk k i x t A c l).head = hd at hq hF
    generalize hmx : max m deep = mx at hq
    have Hmx := Lib.hid hmx
    have Hq := Lib.hid hq
    have hmx0 : 0 ≤ mx ∧ mx ≤ 17 := by omega
    have hne' : ¬ mb = pb := fun e => hne e.symm
    have Hbp := Lib.hid bp
    have Hbm := Lib.hid bm
    simp at c1 c2
    clear hq hn hmx bp bm
    go_enter Tryz.func101, Tryz.ntmps101
    go_upto_region 2 with fail
    go_cut [] (fun wx => Blk wx pb 3 #[.int .i64 (p + 1)] ∧ Blk wx mb 3 #[.int .i64 mx] ∧ Kept [pb, mb] w wx ∧ Blk wx w.heap.size 25 #[Value.int IntKind.i64 k, Value.int IntKind.i64 i, Value.int IntKind.u64 x, Value.string t, Value.slice A l.length c])
    case first =>
      clear ih hsn ha hF Hq hlo
      by_cases hlt : m < deep
      · have e1 : mx = deep := by have := Hmx.out; omega
        obtain rfl := e1
        go_wp2_with fail
        have hbp := Hbp.out
        have hbm := Hbm.out
        go_meet
        case rel =>
          exact ⟨((hbp.set_ 0 _).far (p := ⟨mb, 0, none⟩) hne _).alloc _, ((hbm.far (p := ⟨pb, 0, none⟩) hne' _).set_ 0 _).alloc _, (((Kept.refl _ _).setCell (p := ⟨pb, 0, none⟩) (.inl (by simp)) _).setCell (p := ⟨mb, 0, none⟩) (.inl (by simp)) _).alloc _, Blk.new' (by simp [World.setCell]) _ _⟩
      · have e1 : mx = m := by have := Hmx.out; omega
        obtain rfl := e1
        go_wp2_with fail
        have hbp := Hbp.out
        have hbm := Hbm.out
        go_meet
        case rel =>
          exact ⟨((hbp.set_ 0 _).far (p := ⟨mb, 0, none⟩) hne _).alloc _, ((hbm.far (p := ⟨pb, 0, none⟩) hne' _).set_ 0 _).alloc _, (((Kept.refl _ _).setCell (p := ⟨pb, 0, none⟩) (.inl (by simp)) _).setCell (p := ⟨mb, 0, none⟩) (.inl (by simp)) _).alloc _, Blk.new' (by simp [World.setCell]) _ _⟩
    case rest =>
      obtain ⟨bp1, bm1, hk1, bx1⟩ := hcut
      clear c1 c2 f1 f2
      have c1 := bp1.cell 0
      have c2 := bx1.cell 0
      have c3 := bx1.cell 1
      have c4 := bx1.cell 2
      have c5 := bx1.cell 3
      have c6 := bx1.cell 4
      simp at c1 c2 c3 c4 c5 c6
      have Hb := Lib.hid (And.intro bp1 (And.intro bm1 (And.intro hk1 bx1)))
      have hzz := bx1.lt
      clear bp1 bm1 hk1 bx1
      have hq := Hq.out
      by_cases g1 : 4096 < p + 1
      · rw [if_pos (.inl g1)] at hq
        obtain rfl := hq
        clear hF ih ha hlo
        go_wp2_with fail
        go_ret
        exact ⟨rfl, Hb.out.1, Hb.out.2.1, Hb.out.2.2.1⟩
      · by_cases g2 : 16 < deep
        · rw [if_pos (.inr (.inl g2))] at hq
          obtain rfl := hq
          clear hF ih ha hlo
          go_wp2_with fail
          go_ret
          exact ⟨rfl, Hb.out.1, Hb.out.2.1, Hb.out.2.2.1⟩
        · cases hd
          · rw [if_pos (.inr (.inr rfl))] at hq
            obtain rfl := hq
            clear ih ha hlo
            go_wp2_with (go_at_call 129; refine (hF.out _).mono ?_; rintro e w1 ⟨rfl, hbw⟩; have hbw1 := Lib.hid hbw; clear hbw)
            go_ret
            exact ⟨rfl, Hb.out.1.below hbw1.out Hb.out.1.lt, Hb.out.2.1.below hbw1.out Hb.out.2.1.lt, Hb.out.2.2.1.trans (Kept.of_below hbw1.out _)⟩
          · rw [if_neg (by simp; omega)] at hq
            have Hq' := Lib.hid hq
            clear hq Hq
            go_wp2_with fail
            refine (hF.out _).mono ?_
            rintro e w1 ⟨rfl, hbw⟩
            have bp1 := Hb.out.1.below hbw Hb.out.1.lt
            have bm1 := Hb.out.2.1.below hbw Hb.out.2.1.lt
            have hk1 := Hb.out.2.2.1.trans (Kept.of_below hbw _)
            have bx1 := Hb.out.2.2.2.below hbw Hb.out.2.2.2.lt
            clear c1 c2 c3 c4 c5 c6 hbw
            have c6 := bx1.cell 4
            simp at c6
            have Hb1 := Lib.hid (And.intro bp1 (And.intro bm1 (And.intro hk1 bx1)))
            clear bp1 bm1 hk1 bx1
            go_wp2_with fail
            go_loopg [39] l.length (fun g s wr => ∃ (j : Nat) (p' m' : Int), s = .int .i64 j ∧ j + g = l.length ∧ 0 ≤ p' ∧ p' ≤ 4096 ∧ 0 ≤ m' ∧ m' ≤ 17 ∧ Blk wr pb 3 #[.int .i64 p'] ∧ Blk wr mb 3 #[.int .i64 m'] ∧ Kept [pb, mb] w wr ∧ Hid (D.lookL (l.drop j) (deep + 1) p' m' = r))
            case atStart => exact ⟨0, p + 1, mx, rfl, by omega, by omega, by omega, by omega, by omega, Hb1.out.1, Hb1.out.2.1, Hb1.out.2.2.1, Hq'.out.symm⟩
            case round =>
              obtain ⟨j, p', m', rfl, hj, hp0', hp1', hm0', hm1', bp, bm, hk, hinv⟩ := hrel
              by_cases hlt : j < l.length
              · obtain ⟨x', ex⟩ : ∃ x', l[j]? = some x' := ⟨_, List.getElem?_eq_getElem hlt⟩
                obtain ⟨⟨ad, rfl, h1⟩, ha'⟩ := ha.at_ (q := j) ex
                have hlo' : (∀ ad', some ad = some ad' → ad'.block < B) ∧ x'.Lo B := D.LoL.at_ (l := l) hlo ex
                have hbelB : Below B w wr := hk.below (by omega) (by simp; omega)
                obtain ⟨p0, p1, p2, p3, p4⟩ := (h1.below' (B := B) (by rw [block_of_add]; exact hlo'.1 ad rfl) hbelB).five
                have hx : x'.size ≤ n := Nat.le_trans (D.sizeL_le ex) hsn
                have ha1 := ha'.below' hbelB hlo'.2
                have hl1 := hlo'.2
                have hst := Lib.hid (drop_of_get ex)
                have Hw := Lib.hid (And.intro bp (And.intro bm hk))
                clear h1 ha ha' hlo hlo' ex hbelB Hb Hb1 Hbp Hbm hF bp bm hk
                go_wp2_with fail
                have hal := (Below.refl wr.heap.size wr).alloc (Nat.le_refl _) (.cells #[Value.int IntKind.i64 x'.k, Value.int IntKind.i64 x'.i, Value.int IntKind.u64 x'.b, Value.string x'.t, Value.slice x'.A x'.l.length x'.c] 25)
                refine (ih x' (deep + 1) p' m' B pb mb _ hx (ha1.below hal) hl1 hpb hmb hne (Hw.out.1.alloc _) (Hw.out.2.1.alloc _) (by omega) (by omega) hp0' hp1' hm0' hm1').mono ?_
                rintro e w1 ⟨rfl, b1, b2, b3⟩
                have hk' := Lib.hid (Hw.out.2.2.trans ((Kept.of_below hal _).trans b3))
                have hlb := D.look_bd x' (deep + 1) p' m' hp1'
                have hun := hinv.out
                rw [hst.out, D.lookL] at hun
                generalize x'.look (deep + 1) p' m' = y at *
                obtain ⟨y1, y2, y3⟩ := y
                simp only at hun hlb b1 b2
                have Hy := Lib.hid (And.intro b1 b2)
                clear b1 b2 b3 hal
                cases y1
                · rw [if_neg (by simp)] at hun
                  have Hun := Lib.hid hun
                  clear hun
                  go_wp2_with fail
                  go_ret
                  rw [← Hun.out]
                  exact ⟨rfl, Hy.out.1, Hy.out.2, hk'.out⟩
                · rw [if_pos rfl] at hun
                  have Hun := Lib.hid hun
                  have hb5 := hlb.2.2.2.2 rfl
                  clear hun
                  go_wp2_with fail
                  go_roundg (gk - 1)
                  case measure => omega
                  case rel => exact ⟨j + 1, y2, y3, by go_num, by omega, by omega, by omega, by omega, by omega, Hy.out.1, Hy.out.2, hk'.out, Hun⟩
              · have Hw := Lib.hid (And.intro bp (And.intro bm hk))
                clear ih ha hlo Hb Hb1 Hbp Hbm hF bp bm hk
                go_wp2_with fail
                go_ret
                have e := hinv.out
                rw [List.drop_eq_nil_of_le (by omega), D.lookL] at e
                subst e
                exact ⟨rfl, Hw.out⟩
end Go.Proofs.YtbhmeapnmpgggaaGreatDoor
