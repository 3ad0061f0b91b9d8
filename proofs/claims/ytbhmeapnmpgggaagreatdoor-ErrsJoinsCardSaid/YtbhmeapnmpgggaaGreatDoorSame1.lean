/- R.Same of layer 1 (conduitref01.Same): the walk. Condition: both trees lie in the world. -/
import Derived.Test.YtbhmeapnmpgggaaGreatDoorKit
namespace Go.Proofs.YtbhmeapnmpgggaaGreatDoor
open Go.RowKit

set_option maxHeartbeats 400000 in
set_option maxRecDepth 100000 in
theorem same1_any (n : Nat) : ∀ (a b : D) (w : World), a.size ≤ n → a.In w → b.In w →
    Calls Tryz.prog 53 #[a.v, b.v] w fun e w' => e = .returned (.bool (a.same b)) ∧ Below w.heap.size w w' := by
  induction n with
  | zero => intro a b w h; rw [D.size_eq] at h; omega
  | succ n ih =>
    intro a b w hn ha hb
    obtain ⟨k, i, x, t, A, c, l⟩ := a
    obtain ⟨bk, bi, bx, bt, B, bc, m⟩ := b
    have har := ha.rng
    have hbr := hb.rng
    simp only [D.k_mk, D.i_mk, D.b_mk, D.t_mk, D.l_mk, D.c_mk, D.Rng] at har hbr
    have hsn : D.sizeL l ≤ n := by simp only [D.size] at hn; omega
    by_cases h : k = bk ∧ i = bi ∧ x = bx ∧ t = bt ∧ l.length = m.length
    · obtain ⟨rfl, rfl, rfl, rfl, h⟩ := h
      have hlen := Lib.hid h
      have hq : (Ending.returned (.bool ((D.mk k i x t A c l).same (D.mk k i x t B bc m)))) = .returned (.bool (D.sameL l m)) := by rw [D.same]; simp
      simp only [D.v, D.cs, D.k_mk, D.i_mk, D.b_mk, D.t_mk, D.l_mk, D.c_mk, D.A_mk]
      rw [← h, hq]
      clear h hn hq
      go_enter Tryz.func53, Tryz.ntmps53
      go_wp2_with fail
      have hb0 : Below w.heap.size w ((w.alloc (.cells #[Value.int IntKind.i64 k, Value.int IntKind.i64 i, Value.int IntKind.u64 x, Value.string t, Value.slice A l.length c] 25)).alloc (.cells #[Value.int IntKind.i64 k, Value.int IntKind.i64 i, Value.int IntKind.u64 x, Value.string t, Value.slice B l.length bc] 25)) :=
        ((Below.refl _ _).alloc (Nat.le_refl _) _).alloc (by simp) _
      go_loopg [44] l.length (fun g s wr => ∃ j : Nat, s = .int .i64 j ∧ j + g = l.length ∧ Below w.heap.size w wr ∧ w.heap.size + 2 ≤ wr.heap.size ∧ wr.cell? ⟨w.heap.size, 4, none⟩ = some (Value.slice A l.length c) ∧ wr.cell? ⟨w.heap.size + 1, 4, none⟩ = some (Value.slice B l.length bc) ∧ Hid (D.sameL (l.drop j) (m.drop j) = D.sameL l m))
      case atStart => exact ⟨0, rfl, by omega, hb0, by simp, by simp [go_sem], by simp [go_sem], by simp [Hid]⟩
      case round =>
        obtain ⟨j, rfl, hj, hbel, hz, ca, cb, hinv⟩ := hrel
        by_cases hlt : j < l.length
        · obtain ⟨x', ex⟩ : ∃ x', l[j]? = some x' := ⟨_, List.getElem?_eq_getElem hlt⟩
          obtain ⟨y', ey⟩ : ∃ y', m[j]? = some y' := ⟨_, List.getElem?_eq_getElem (hlen.out ▸ hlt)⟩
          obtain ⟨⟨ad, rfl, h1⟩, ha'⟩ := ha.at_ (q := j) ex
          obtain ⟨⟨bd, rfl, h2⟩, hb'⟩ := hb.at_ (q := j) ey
          obtain ⟨p0, p1, p2, p3, p4⟩ := (h1.below hbel).five
          obtain ⟨q0, q1, q2, q3, q4⟩ := (h2.below hbel).five
          have hx : x'.size ≤ n := Nat.le_trans (D.sizeL_le ex) hsn
          have ha1 := ha'.below hbel
          have hb1 := hb'.below hbel
          have hst : Hid (D.sameL (l.drop j) (m.drop j) = (x'.same y' && D.sameL (l.drop (j + 1)) (m.drop (j + 1)))) := by
            rw [drop_of_get ex, drop_of_get ey]; rfl
          clear h1 h2 ha hb ha' hb' hb0 ex ey
          have hbel' := Lib.hid hbel
          clear hbel
          go_wp2_with fail
          go_still_tail 10, (by kernel_rfl)
          go_wp2_with fail
          refine (ih x' y' wr.drew hx (ha1.below (Below.refl _ _).drew) (hb1.below (Below.refl _ _).drew)).mono ?_
          rintro e w1 ⟨rfl, hbw⟩
          have cc := (hbw.cell (p := ⟨w.heap.size, 4, none⟩) (show w.heap.size < wr.heap.size by omega)).trans ca
          have cd := (hbw.cell (p := ⟨w.heap.size + 1, 4, none⟩) (show w.heap.size + 1 < wr.heap.size by omega)).trans cb
          have hz1 : wr.heap.size ≤ w1.heap.size := hbw.size
          have hbb : Below w.heap.size w w1 := hbel'.out.trans (((Below.refl _ _).drew.trans hbw).mono (show w.heap.size ≤ wr.heap.size by omega))
          have hbb' := Lib.hid hbb
          clear hbb hbw
          cases hs : x'.same y'
          · go_wp2_with fail
            go_ret
            exact ⟨by rw [← hinv.out, hst.out, hs]; rfl, hbb'.out⟩
          · go_wp2_with fail
            go_roundg (gk - 1)
            case measure => omega
            case rel => exact ⟨j + 1, by go_num, by omega, hbb'.out, by omega, cc, cd, by unfold Hid; rw [← hinv.out, hst.out, hs]; rfl⟩
        · have hbel' := Lib.hid hbel
          clear hbel hb0 ha hb
          go_wp2_with fail
          go_ret
          refine ⟨?_, hbel'.out⟩
          rw [← hinv.out, List.drop_eq_nil_of_le (by omega), List.drop_eq_nil_of_le (by have := hlen.out; omega)]; rfl
    · clear ih hn hsn ha hb
      by_cases h1 : k = bk
      · by_cases h2 : i = bi
        · by_cases h3 : x = bx
          · by_cases h4 : t = bt
            · have h5 : l.length ≠ m.length := fun h5 => h ⟨h1, h2, h3, h4, h5⟩
              have hs : D.sameL l m = false := D.sameL_len h5
              have h6 := Lib.hid hs
              subst h1 h2 h3 h4
              clear h hs
              have h7 : ((l.length : Int) != (m.length : Int)) = true := by simp; omega
              simp only [D.v, D.cs, D.k_mk, D.i_mk, D.b_mk, D.t_mk, D.l_mk, D.c_mk, D.A_mk]
              generalize hq : (Ending.returned (.bool ((D.mk k i x t A c l).same (D.mk k i x t B bc m)))) = q
              have Hq := Lib.hid hq; clear hq
              go_enter Tryz.func53, Tryz.ntmps53
              go_wp2_with fail
              go_ret
              exact ⟨by rw [← Hq.out]; simp [D.same, h6.out], ((Below.refl _ _).alloc (Nat.le_refl _) _).alloc (by simp) _⟩
            · subst h1 h2 h3
              clear h
              have h5 : ¬ t.toList = bt.toList := fun e => h4 (toList_inj e)
              simp only [D.v, D.cs, D.k_mk, D.i_mk, D.b_mk, D.t_mk, D.l_mk, D.c_mk, D.A_mk]
              generalize hq : (Ending.returned (.bool ((D.mk k i x t A c l).same (D.mk k i x bt B bc m)))) = q
              have Hq := Lib.hid hq; clear hq
              go_enter Tryz.func53, Tryz.ntmps53
              go_wp2_with fail
              go_ret
              exact ⟨by rw [← Hq.out]; simp [D.same, h4], ((Below.refl _ _).alloc (Nat.le_refl _) _).alloc (by simp) _⟩
          · subst h1 h2
            clear h
            simp only [D.v, D.cs, D.k_mk, D.i_mk, D.b_mk, D.t_mk, D.l_mk, D.c_mk, D.A_mk]
            generalize hq : (Ending.returned (.bool ((D.mk k i x t A c l).same (D.mk k i bx bt B bc m)))) = q
            have Hq := Lib.hid hq; clear hq
            go_enter Tryz.func53, Tryz.ntmps53
            go_wp2_with fail
            go_ret
            exact ⟨by rw [← Hq.out]; simp [D.same, h3], ((Below.refl _ _).alloc (Nat.le_refl _) _).alloc (by simp) _⟩
        · subst h1
          clear h
          simp only [D.v, D.cs, D.k_mk, D.i_mk, D.b_mk, D.t_mk, D.l_mk, D.c_mk, D.A_mk]
          generalize hq : (Ending.returned (.bool ((D.mk k i x t A c l).same (D.mk k bi bx bt B bc m)))) = q
          have Hq := Lib.hid hq; clear hq
          go_enter Tryz.func53, Tryz.ntmps53
          go_wp2_with fail
          go_ret
          exact ⟨by rw [← Hq.out]; simp [D.same, h2], ((Below.refl _ _).alloc (Nat.le_refl _) _).alloc (by simp) _⟩
      · clear h
        simp only [D.v, D.cs, D.k_mk, D.i_mk, D.b_mk, D.t_mk, D.l_mk, D.c_mk, D.A_mk]
        generalize hq : (Ending.returned (.bool ((D.mk k i x t A c l).same (D.mk bk bi bx bt B bc m)))) = q
        have Hq := Lib.hid hq; clear hq
        go_enter Tryz.func53, Tryz.ntmps53
        go_wp2_with fail
        go_ret
        exact ⟨by rw [← Hq.out]; simp [D.same, h1], ((Below.refl _ _).alloc (Nat.le_refl _) _).alloc (by simp) _⟩
end Go.Proofs.YtbhmeapnmpgggaaGreatDoor
