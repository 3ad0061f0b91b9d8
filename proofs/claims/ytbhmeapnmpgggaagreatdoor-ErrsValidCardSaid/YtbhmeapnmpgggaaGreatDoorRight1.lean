/- conduitref01.right: the walk. Condition: the tree lies in the world. -/
import Derived.Test.YtbhmeapnmpgggaaGreatDoorKit
namespace Go.Proofs.YtbhmeapnmpgggaaGreatDoor
open Go.RowKit

def D.partsOf (k : Int) : Int := if k = 8 then -1 else if k = 9 then 2 else if k = 11 then 1 else 0
def D.okK (k i : Int) : Prop := 0 ≤ k ∧ k ≤ 13 ∧ (k = 6 → i = 0 ∨ i = 1) ∧ (k = 11 → 1 ≤ i)
def D.okR (p q r : Bool) (m i x : Int) (t : ByteArray) (len : Nat) : Prop := (p = true ∨ i = 0) ∧ (q = true ∨ x = 0) ∧ (r = true ∨ t.toList = []) ∧ (m < 0 ∨ (len : Int) = m) ∧ (t.size : Int) ≤ 65535
theorem D.head_iff (d : D) : d.head = true ↔ D.okK d.k d.i ∧ D.okR (D.hasI d.k) (d.k == 3) (D.hasT d.k) (D.partsOf d.k) d.i d.b d.t d.l.length := by
  have e : d.t.toList = [] ↔ d.t.size = 0 := by
    rw [ByteArray.toList_eq]; cases d.t with | mk a => simp [ByteArray.size]
  simp only [D.head, decide_eq_true_eq, D.okK, D.okR, beq_iff_eq, e]
  have h1 : (d.k = 8 ∨ d.l.length = if d.k = 9 then 2 else if d.k = 11 then 1 else 0) ↔ (D.partsOf d.k < 0 ∨ (d.l.length : Int) = D.partsOf d.k) := by
    unfold D.partsOf
    by_cases h8 : d.k = 8
    · simp [h8]
    · by_cases h9 : d.k = 9
      · simp [h9]; omega
      · by_cases h11 : d.k = 11
        · simp [h11]; omega
        · simp [h8, h9, h11]
  rw [h1]
  constructor
  · rintro ⟨a1, a2, a3, a4, a5, a6, a7, a8, a9⟩
    exact ⟨⟨a1, a2, a3, a4⟩, a5, a6, a7, a8, by omega⟩
  · rintro ⟨⟨a1, a2, a3, a4⟩, a5, a6, a7, a8, a9⟩
    exact ⟨a1, a2, a3, a4, a5, a6, a7, a8, by omega⟩

set_option maxHeartbeats 4000000 in
set_option maxRecDepth 100000 in
theorem right1_any (n : Nat) : ∀ (d : D) (w : World), d.size ≤ n → d.In w →
    Calls Tryz.prog 114 #[d.v] w fun e w' => e = .returned (.bool d.right) ∧ Below w.heap.size w w' := by
  induction n with
  | zero => intro d w h; rw [D.size_eq] at h; omega
  | succ n ih =>
    intro d w hn ha
    obtain ⟨k, i, x, t, A, c, l⟩ := d
    have har := ha.rng
    simp only [D.k_mk, D.i_mk, D.b_mk, D.t_mk, D.l_mk, D.c_mk, D.Rng] at har
    have hsn : D.sizeL l ≤ n := by simp only [D.size] at hn; omega
    have hh := D.head_iff (.mk k i x t A c l)
    have hr : (D.mk k i x t A c l).right = ((D.mk k i x t A c l).head && D.rightL l) := D.right.eq_1 ..
    simp only [D.k_mk, D.i_mk, D.b_mk, D.t_mk, D.l_mk] at hh
    simp only [D.v, D.cs, D.k_mk, D.i_mk, D.b_mk, D.t_mk, D.l_mk, D.c_mk, D.A_mk]
    generalize (D.mk k i x t A c l).right = r at hr
    generalize (D.mk k i x t A c l).head = hd at hh hr
    have Hh := Lib.hid hh
    have Hr := Lib.hid hr
    clear hh hr hn
    go_enter Tryz.func114, Tryz.ntmps114
    go_upto_block 0 with fail
    have hb0 := Lib.hid (show Below w.heap.size w (w.alloc (.cells #[Value.int IntKind.i64 k, Value.int IntKind.i64 i, Value.int IntKind.u64 x, Value.string t, Value.slice A l.length c] 25)) from (Below.refl _ _).alloc (Nat.le_refl _) _)
    go_cut [3, 4, 5, 6] (fun s3 s4 s5 s6 wx => s3 = .bool (D.hasI k) ∧ s4 = .bool (k == 3) ∧ s5 = .bool (D.hasT k) ∧ s6 = .int .i64 (D.partsOf k) ∧ (w.alloc (.cells #[Value.int IntKind.i64 k, Value.int IntKind.i64 i, Value.int IntKind.u64 x, Value.string t, Value.slice A l.length c] 25)) = wx ∧ Hid (D.okK k i))
    case first =>
      clear ih hsn ha
      go_wp2_with fail
      all_goals first
        | (go_ret
           refine ⟨?_, hb0.out⟩
           rw [Hr.out]
           have e : hd = false := by
             cases hd
             · rfl
             · exfalso
               obtain ⟨⟨e1, e2, e3, e4⟩, _⟩ := Hh.out.1 rfl
               simp only [beq_eq_false_iff_ne, beq_iff_eq, bne_iff_ne, ne_eq] at *
               omega
           rw [e]; rfl)
        | ((try subst_vars); go_meet; case rel => first
            | (have e : k = 0 := eq_of_beq (by assumption); subst e; exact ⟨rfl, rfl, rfl, rfl, rfl, by unfold Hid D.okK; refine ⟨by decide, by decide, ?_, ?_⟩ <;> (intro h; first | (exact absurd h (by decide)) | assumption | omega)⟩)
            | (have e : k = 1 := eq_of_beq (by assumption); subst e; exact ⟨rfl, rfl, rfl, rfl, rfl, by unfold Hid D.okK; refine ⟨by decide, by decide, ?_, ?_⟩ <;> (intro h; first | (exact absurd h (by decide)) | assumption | omega)⟩)
            | (have e : k = 2 := eq_of_beq (by assumption); subst e; exact ⟨rfl, rfl, rfl, rfl, rfl, by unfold Hid D.okK; refine ⟨by decide, by decide, ?_, ?_⟩ <;> (intro h; first | (exact absurd h (by decide)) | assumption | omega)⟩)
            | (have e : k = 3 := eq_of_beq (by assumption); subst e; exact ⟨rfl, rfl, rfl, rfl, rfl, by unfold Hid D.okK; refine ⟨by decide, by decide, ?_, ?_⟩ <;> (intro h; first | (exact absurd h (by decide)) | assumption | omega)⟩)
            | (have e : k = 4 := eq_of_beq (by assumption); subst e; exact ⟨rfl, rfl, rfl, rfl, rfl, by unfold Hid D.okK; refine ⟨by decide, by decide, ?_, ?_⟩ <;> (intro h; first | (exact absurd h (by decide)) | assumption | omega)⟩)
            | (have e : k = 5 := eq_of_beq (by assumption); subst e; exact ⟨rfl, rfl, rfl, rfl, rfl, by unfold Hid D.okK; refine ⟨by decide, by decide, ?_, ?_⟩ <;> (intro h; first | (exact absurd h (by decide)) | assumption | omega)⟩)
            | (have e : k = 7 := eq_of_beq (by assumption); subst e; exact ⟨rfl, rfl, rfl, rfl, rfl, by unfold Hid D.okK; refine ⟨by decide, by decide, ?_, ?_⟩ <;> (intro h; first | (exact absurd h (by decide)) | assumption | omega)⟩)
            | (have e : k = 8 := eq_of_beq (by assumption); subst e; exact ⟨rfl, rfl, rfl, rfl, rfl, by unfold Hid D.okK; refine ⟨by decide, by decide, ?_, ?_⟩ <;> (intro h; first | (exact absurd h (by decide)) | assumption | omega)⟩)
            | (have e : k = 9 := eq_of_beq (by assumption); subst e; exact ⟨rfl, rfl, rfl, rfl, rfl, by unfold Hid D.okK; refine ⟨by decide, by decide, ?_, ?_⟩ <;> (intro h; first | (exact absurd h (by decide)) | assumption | omega)⟩)
            | (have e : k = 10 := eq_of_beq (by assumption); subst e; exact ⟨rfl, rfl, rfl, rfl, rfl, by unfold Hid D.okK; refine ⟨by decide, by decide, ?_, ?_⟩ <;> (intro h; first | (exact absurd h (by decide)) | assumption | omega)⟩)
            | (have e : k = 11 := eq_of_beq (by assumption); subst e; exact ⟨rfl, rfl, rfl, rfl, rfl, by unfold Hid D.okK; refine ⟨by decide, by decide, ?_, ?_⟩ <;> (intro h; first | (exact absurd h (by decide)) | assumption | omega)⟩)
            | (have e : k = 12 := eq_of_beq (by assumption); subst e; exact ⟨rfl, rfl, rfl, rfl, rfl, by unfold Hid D.okK; refine ⟨by decide, by decide, ?_, ?_⟩ <;> (intro h; first | (exact absurd h (by decide)) | assumption | omega)⟩)
            | (have e : k = 13 := eq_of_beq (by assumption); subst e; exact ⟨rfl, rfl, rfl, rfl, rfl, by unfold Hid D.okK; refine ⟨by decide, by decide, ?_, ?_⟩ <;> (intro h; first | (exact absurd h (by decide)) | assumption | omega)⟩)
            | (have e : k = 6 := eq_of_beq (by assumption); subst e; refine ⟨rfl, rfl, rfl, rfl, rfl, ?_⟩; unfold Hid D.okK; refine ⟨by decide, by decide, fun _ => ?_, fun h => absurd h (by decide)⟩; simp_all; done))
    case rest =>
      obtain ⟨rfl, rfl, rfl, rfl, rfl, hk⟩ := hcut
      have hm : -1 ≤ D.partsOf k ∧ D.partsOf k ≤ 2 := by unfold D.partsOf; split; omega; split; omega; split <;> omega
      generalize D.hasI k = p at *
      generalize (k == 3) = q at *
      generalize D.hasT k = r' at *
      generalize D.partsOf k = m at *
      go_upto_region 32 with fail
      go_cut [3, 4, 5, 6, 85] (fun _ _ _ _ s85 wx => ∃ b : Bool, s85 = .bool b ∧ (w.alloc (.cells #[Value.int IntKind.i64 k, Value.int IntKind.i64 i, Value.int IntKind.u64 x, Value.string t, Value.slice A l.length c] 25)) = wx ∧ Hid (b = true ↔ ¬ D.okR p q r' m i x t l.length))
      case first =>
        clear ih hsn ha
        cases p <;> cases q <;> cases r'
        all_goals go_wp2_with fail
        all_goals
          subst_vars
          go_meet
          case rel =>
            refine ⟨_, rfl, rfl, ?_⟩
            unfold Hid D.okR
            simp [*]
            try omega
      case rest =>
        obtain ⟨b, rfl, rfl, hb⟩ := hcut
        cases b
        · have hd1 : hd = true := Hh.out.2 ⟨hk.out, Classical.not_not.1 (fun h => by simpa using hb.out.2 h)⟩
          rw [hd1, Bool.true_and] at Hr
          go_wp2_with fail
          go_loopg [89] l.length (fun g s wr => ∃ j : Nat, s = .int .i64 j ∧ j + g = l.length ∧ Below w.heap.size w wr ∧ w.heap.size + 1 ≤ wr.heap.size ∧ wr.cell? ⟨w.heap.size, 4, none⟩ = some (Value.slice A l.length c) ∧ Hid (D.rightL (l.drop j) = D.rightL l))
          case atStart => exact ⟨0, rfl, by omega, hb0.out, by simp, by simp [go_sem], by simp [Hid]⟩
          case round =>
            obtain ⟨j, rfl, hj, hbel, hz, ca, hinv⟩ := hrel
            by_cases hlt : j < l.length
            · obtain ⟨x', ex⟩ : ∃ x', l[j]? = some x' := ⟨_, List.getElem?_eq_getElem hlt⟩
              obtain ⟨⟨ad, rfl, h1⟩, ha'⟩ := ha.at_ (q := j) ex
              obtain ⟨p0, p1, p2, p3, p4⟩ := (h1.below hbel).five
              have hx : x'.size ≤ n := Nat.le_trans (D.sizeL_le ex) hsn
              have ha1 := ha'.below hbel
              have hst := Lib.hid (show D.rightL (l.drop j) = (x'.right && D.rightL (l.drop (j + 1))) by rw [drop_of_get ex]; rfl)
              clear h1 ha ha' hb0 ex
              have hbel' := Lib.hid hbel
              clear hbel
              go_wp2_with fail
              refine (ih x' wr hx ha1).mono ?_
              rintro e w1 ⟨rfl, hbw⟩
              have cc := (hbw.cell (p := ⟨w.heap.size, 4, none⟩) (show w.heap.size < wr.heap.size by omega)).trans ca
              have hz1 : wr.heap.size ≤ w1.heap.size := hbw.size
              have hbb := Lib.hid (hbel'.out.trans (hbw.mono (show w.heap.size ≤ wr.heap.size by omega)))
              clear hbw
              cases hs : x'.right
              · go_wp2_with fail
                go_ret
                exact ⟨by rw [Hr.out, ← hinv.out, hst.out, hs] <;> rfl, hbb.out⟩
              · go_wp2_with fail
                go_roundg (gk - 1)
                case measure => omega
                case rel => exact ⟨j + 1, by go_num, by omega, hbb.out, by omega, cc, by unfold Hid; rw [← hinv.out, hst.out, hs] <;> rfl⟩
            · have hbel' := Lib.hid hbel
              clear hbel hb0 ha
              go_wp2_with fail
              go_ret
              refine ⟨?_, hbel'.out⟩
              rw [Hr.out, ← hinv.out, List.drop_eq_nil_of_le (by omega)] <;> rfl
        · go_wp2_with fail
          go_ret
          refine ⟨?_, hb0.out⟩
          have e : hd = false := by
            cases hd
            · rfl
            · exact absurd (Hh.out.1 rfl).2 (hb.out.1 (by simp))
          rw [Hr.out, e] <;> rfl
end Go.Proofs.YtbhmeapnmpgggaaGreatDoor
