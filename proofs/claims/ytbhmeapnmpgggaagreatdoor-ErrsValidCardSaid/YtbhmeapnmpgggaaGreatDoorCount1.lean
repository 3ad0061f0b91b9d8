/- conduitref01.count: the walk. Condition: the tree lies in the world; the depth and what is left are small. -/
import Derived.Test.YtbhmeapnmpgggaaGreatDoorKit
namespace Go.Proofs.YtbhmeapnmpgggaaGreatDoor
open Go.RowKit

set_option maxHeartbeats 400000 in
set_option maxRecDepth 100000 in
theorem count1_any (n : Nat) : ∀ (d : D) (deep left : Int) (w : World), d.size ≤ n → d.In w → 0 ≤ deep → deep ≤ 17 → -5000 ≤ left → left ≤ 4096 →
    Calls Tryz.prog 113 #[d.v, .int .i64 deep, .int .i64 left] w fun e w' => e = .returned (.tuple #[.int .i64 (d.count deep left).1, .int .i64 (d.count deep left).2]) ∧ Below w.heap.size w w' := by
  induction n with
  | zero => intro d _ _ w h; rw [D.size_eq] at h; omega
  | succ n ih =>
    intro d deep left w hn ha hd0 hd1 hl0 hl1
    obtain ⟨k, i, x, t, A, c, l⟩ := d
    have har := ha.rng
    simp only [D.k_mk, D.i_mk, D.b_mk, D.t_mk, D.l_mk, D.c_mk, D.Rng] at har
    have hsn : D.sizeL l ≤ n := by simp only [D.size] at hn; omega
    simp only [D.v, D.cs, D.k_mk, D.i_mk, D.b_mk, D.t_mk, D.l_mk, D.c_mk, D.A_mk]
    by_cases h : 16 < deep ∨ left ≤ 0
    · have hq := Lib.hid (show D.count (.mk k i x t A c l) deep left = (4097, deep) by rw [D.count, if_pos h])
      rw [hq.out]
      clear hq ih hsn ha hn
      have hb0 := Lib.hid (show Below w.heap.size w (w.alloc (.cells #[Value.int IntKind.i64 k, Value.int IntKind.i64 i, Value.int IntKind.u64 x, Value.string t, Value.slice A l.length c] 25)) from (Below.refl _ _).alloc (Nat.le_refl _) _)
      go_enter Tryz.func113, Tryz.ntmps113
      by_cases h' : 16 < deep
      · go_wp2_with fail
        go_ret2
        exact ⟨rfl, hb0.out⟩
      · have h'' : left ≤ 0 := by omega
        go_wp2_with fail
        go_ret2
        exact ⟨rfl, hb0.out⟩
    · have h1 : ¬ 16 < deep := by omega
      have h2 : ¬ left ≤ 0 := by omega
      have hq : D.count (.mk k i x t A c l) deep left = D.countL l deep left 1 deep := by rw [D.count, if_neg h]
      rw [hq]
      generalize hg : D.countL l deep left 1 deep = r
      have Hg := Lib.hid hg
      clear hq hn h hg
      have hb0 := Lib.hid (show Below w.heap.size w (w.alloc (.cells #[Value.int IntKind.i64 k, Value.int IntKind.i64 i, Value.int IntKind.u64 x, Value.string t, Value.slice A l.length c] 25)) from (Below.refl _ _).alloc (Nat.le_refl _) _)
      go_enter Tryz.func113, Tryz.ntmps113
      go_wp2_with fail
      go_loopg [8, 9, 24] l.length (fun g s8 s9 s wr => ∃ (j : Nat) (m most : Int), s = .int .i64 j ∧ s8 = .int .i64 m ∧ s9 = .int .i64 most ∧ j + g = l.length ∧ 1 ≤ m ∧ m ≤ left ∧ deep ≤ most ∧ most ≤ 16 ∧ Below w.heap.size w wr ∧ w.heap.size + 1 ≤ wr.heap.size ∧ wr.cell? ⟨w.heap.size, 4, none⟩ = some (Value.slice A l.length c) ∧ Hid (D.countL (l.drop j) deep left m most = r))
      case atStart => exact ⟨0, 1, deep, rfl, rfl, rfl, by omega, by omega, by omega, by omega, by omega, hb0.out, by simp, by simp [go_sem], Hg⟩
      case round =>
        obtain ⟨j, m, most, rfl, rfl, rfl, hj, hm1, hm2, hm3, hm4, hbel, hz, ca, hinv⟩ := hrel
        by_cases hlt : j < l.length
        · obtain ⟨x', ex⟩ : ∃ x', l[j]? = some x' := ⟨_, List.getElem?_eq_getElem hlt⟩
          obtain ⟨⟨ad, rfl, h1⟩, ha'⟩ := ha.at_ (q := j) ex
          obtain ⟨p0, p1, p2, p3, p4⟩ := (h1.below hbel).five
          have hx : x'.size ≤ n := Nat.le_trans (D.sizeL_le ex) hsn
          have ha1 := ha'.below hbel
          have hst := Lib.hid (drop_of_get ex)
          clear h1 ha ha' hb0 ex
          have hbel' := Lib.hid hbel
          clear hbel
          go_wp2_with fail
          refine (ih x' (deep + 1) (left - m) wr hx ha1 (by omega) (by omega) (by omega) (by omega)).mono ?_
          rintro e w1 ⟨rfl, hbw⟩
          have cc := (hbw.cell (p := ⟨w.heap.size, 4, none⟩) (show w.heap.size < wr.heap.size by omega)).trans ca
          have hz1 : wr.heap.size ≤ w1.heap.size := hbw.size
          have hbb := Lib.hid (hbel'.out.trans (hbw.mono (show w.heap.size ≤ wr.heap.size by omega)))
          clear hbw
          have hcb := D.count_bd x' (deep + 1) (left - m) (by omega) (by omega)
          have hun := hinv.out
          rw [hst.out, D.countL] at hun
          generalize x'.count (deep + 1) (left - m) = y at *
          obtain ⟨y1, y2⟩ := y
          simp only at hun hcb
          by_cases hmx : most < y2
          · have hmax : max most y2 = y2 := by omega
            rw [hmax] at hun
            clear hmax
            by_cases hc1 : left < m + y1
            · rw [if_pos (.inl hc1)] at hun
              have Hun := Lib.hid hun
              clear hun
              go_wp2_with fail
              go_ret2
              exact ⟨by rw [← Hun.out] <;> rfl, hbb.out⟩
            · by_cases hc2 : 16 < y2
              · rw [if_pos (.inr hc2)] at hun
                have Hun := Lib.hid hun
                clear hun
                go_wp2_with fail
                go_ret2
                exact ⟨by rw [← Hun.out] <;> rfl, hbb.out⟩
              · rw [if_neg (by omega)] at hun
                have Hun := Lib.hid hun
                clear hun
                go_wp2_with fail
                go_roundg (gk - 1)
                case measure => omega
                case rel => exact ⟨j + 1, m + y1, y2, by go_num, rfl, rfl, by omega, by omega, by omega, by omega, by omega, hbb.out, by omega, cc, Hun⟩
          · have hmax : max most y2 = most := by omega
            rw [hmax] at hun
            clear hmax
            by_cases hc1 : left < m + y1
            · rw [if_pos (.inl hc1)] at hun
              have Hun := Lib.hid hun
              clear hun
              go_wp2_with fail
              go_ret2
              exact ⟨by rw [← Hun.out] <;> rfl, hbb.out⟩
            · by_cases hc2 : 16 < most
              · exact absurd hc2 (by omega)
              · rw [if_neg (by omega)] at hun
                have Hun := Lib.hid hun
                clear hun
                go_wp2_with fail
                go_roundg (gk - 1)
                case measure => omega
                case rel => exact ⟨j + 1, m + y1, most, by go_num, rfl, rfl, by omega, by omega, by omega, by omega, by omega, hbb.out, by omega, cc, Hun⟩
        · have hbel' := Lib.hid hbel
          clear hbel hb0 ha
          go_wp2_with fail
          go_ret2
          refine ⟨?_, hbel'.out⟩
          have := hinv.out
          rw [List.drop_eq_nil_of_le (by omega), D.countL] at this
          rw [← this] <;> rfl
end Go.Proofs.YtbhmeapnmpgggaaGreatDoor
