/- conduitref01.count: the walk. Condition: the tree lies in the world; the depth and what is left are small. -/
import Derived.Test.YtbhmeapnmpgggaaGreatDoorKit
import Derived.Test.YtbhmeapnmpgggaaGreatDoorLook0
import Derived.Test.YtbhmeapnmpgggaaGreatDoorPlain1
namespace Go.Proofs.YtbhmeapnmpgggaaGreatDoor
open Go.RowKit

set_option maxHeartbeats 400000 in
set_option maxRecDepth 100000 in
theorem count1_any (n : Nat) : ∀ (d : D) (deep left : Int) (w : World), d.size ≤ n → d.In w → 0 ≤ deep → deep ≤ 17 → -5000 ≤ left → left ≤ 4096 →
    Calls Tryz.prog 113 #[d.v, .int .i64 deep, .int .i64 left] w fun e w' => e = .returned (.tuple #[.int .i64 (d.count deep left).1, .int .i64 (d.count deep left).2]) ∧ Below w.heap.size w w' := by
  induction n with
  | zero => intro d _ _ w h; rw [D.size_eq] at h; omega
  | succ n ih =>
    intro d deep left w hn ha hd0 hd1 hl0 hl1
    obtain ⟨k, i, x, t, A, c, l⟩ := d
    have har := ha.rng
    simp only [D.k_mk, D.i_mk, D.b_mk, D.t_mk, D.l_mk, D.c_mk, D.Rng] at har
    have hsn : D.sizeL l ≤ n := by simp only [D.size] at hn; omega
    simp only [D.v, D.cs, D.k_mk, D.i_mk, D.b_mk, D.t_mk, D.l_mk, D.c_mk, D.A_mk]
    by_cases h : 16 < deep ∨ left ≤ 0
    · have hq := Lib.hid (show D.count (.mk k i x t A c l) deep left = (4097, deep) by rw [D.count, if_pos h])
      rw [hq.out]
      clear hq ih hsn ha hn
      have hb0 := Lib.hid (show Below w.heap.size w (w.alloc (.cells #[Value.int IntKind.i64 k, Value.int IntKind.i64 i, Value.int IntKind.u64 x, Value.string t, Value.slice A l.length c] 25)) from (Below.refl _ _).alloc (Nat.le_refl _) _)
      go_enter Tryz.func113, Tryz.ntmps113
      by_cases h' : 16 < deep
      · go_wp2_with fail
        go_ret2
        exact ⟨rfl, hb0.out⟩
      · have h'' : left ≤ 0 := by omega
        go_wp2_with fail
        go_ret2
        exact ⟨rfl, hb0.out⟩
    · have h1 : ¬ 16 < deep := by omega
      have h2 : ¬ left ≤ 0 := by omega
      have hq : D.count (.mk k i x t A c l) deep left = D.countL l deep left 1 deep := by rw [D.count, if_neg h]
      rw [hq]
      generalize hg : D.countL l deep left 1 deep = r
      have Hg := Lib.hid hg
      clear hq hn h hg
      have hb0 := Lib.hid (show Below w.heap.size w (w.alloc (.cells #[Value.int IntKind.i64 k, Value.int IntKind.i64 i, Value.int IntKind.u64 x, Value.string t, Value.slice A l.length c] 25)) from (Below.refl _ _).alloc (Nat.le_refl _) _)
      go_enter Tryz.func113, Tryz.ntmps113
      go_wp2_with fail
      go_loopg [8, 9, 24] l.length (fun g s8 s9 s wr => ∃ (j : Nat) (m most : Int), s = .int .i64 j ∧ s8 = .int .i64 m ∧ s9 = .int .i64 most ∧ j + g = l.length ∧ 1 ≤ m ∧ m ≤ left ∧ deep ≤ most ∧ most ≤ 16 ∧ Below w.heap.size w wr ∧ w.heap.size + 1 ≤ wr.heap.size ∧ wr.cell? ⟨w.heap.size, 4, none⟩ = some (Value.slice A l.length c) ∧ Hid (D.countL (l.drop j) deep left m most = r))
      case atStart => exact ⟨0, 1, deep, rfl, rfl, rfl, by omega, by omega, by omega, by omega, by omega, hb0.out, by simp, by simp [go_sem], Hg⟩
      case round =>
        obtain ⟨j, m, most, rfl, rfl, rfl, hj, hm1, hm2, hm3, hm4, hbel, hz, ca, hinv⟩ := hrel
        by_cases hlt : j < l.length
        · obtain ⟨x', ex⟩ : ∃ x', l[j]? = some x' := ⟨_, List.getElem?_eq_getElem hlt⟩
          obtain ⟨⟨ad, rfl, h1⟩, ha'⟩ := ha.at_ (q := j) ex
          obtain ⟨p0, p1, p2, p3, p4⟩ := (h1.below hbel).five
          have hx : x'.size ≤ n := Nat.le_trans (D.sizeL_le ex) hsn
          have ha1 := ha'.below hbel
          have hst := Lib.hid (drop_of_get ex)
          clear h1 ha ha' hb0 ex
          have hbel' := Lib.hid hbel
          clear hbel
          go_wp2_with fail
          refine (ih x' (deep + 1) (left - m) wr hx ha1 (by omega) (by omega) (by omega) (by omega)).mono ?_
          rintro e w1 ⟨rfl, hbw⟩
          have cc := (hbw.cell (p := ⟨w.heap.size, 4, none⟩) (show w.heap.size < wr.heap.size by omega)).trans ca
          have hz1 : wr.heap.size ≤ w1.heap.size := hbw.size
          have hbb := Lib.hid (hbel'.out.trans (hbw.mono (show w.heap.size ≤ wr.heap.size by omega)))
          clear hbw
          have hcb := D.count_bd x' (deep + 1) (left - m) (by omega) (by omega)
          have hun := hinv.out
          rw [hst.out, D.countL] at hun
          generalize x'.count (deep + 1) (left - m) = y at *
          obtain ⟨y1, y2⟩ := y
          simp only at hun hcb
          by_cases hmx : most < y2
          · have hmax : max most y2 = y2 := by omega
            rw [hmax] at hun
            clear hmax
            by_cases hc1 : left < m + y1
            · rw [if_pos (.inl hc1)] at hun
              have Hun := Lib.hid hun
              clear hun
              go_wp2_with fail
              go_ret2
              exact ⟨by rw [← Hun.out] <;> rfl, hbb.out⟩
            · by_cases hc2 : 16 < y2
              · rw [if_pos (.inr hc2)] at hun
                have Hun := Lib.hid hun
                clear hun
                go_wp2_with fail
                go_ret2
                exact ⟨by rw [← Hun.out] <;> rfl, hbb.out⟩
              · rw [if_neg (by omega)] at hun
                have Hun := Lib.hid hun
                clear hun
                go_wp2_with fail
                go_roundg (gk - 1)
                case measure => omega
                case rel => exact ⟨j + 1, m + y1, y2, by go_num, rfl, rfl, by omega, by omega, by omega, by omega, by omega, hbb.out, by omega, cc, Hun⟩
          · have hmax : max most y2 = most := by omega
            rw [hmax] at hun
            clear hmax
            by_cases hc1 : left < m + y1
            · rw [if_pos (.inl hc1)] at hun
              have Hun := Lib.hid hun
              clear hun
              go_wp2_with fail
              go_ret2
              exact ⟨by rw [← Hun.out] <;> rfl, hbb.out⟩
            · by_cases hc2 : 16 < most
              · exact absurd hc2 (by omega)
              · rw [if_neg (by omega)] at hun
                have Hun := Lib.hid hun
                clear hun
                go_wp2_with fail
                go_roundg (gk - 1)
                case measure => omega
                case rel => exact ⟨j + 1, m + y1, most, by go_num, rfl, rfl, by omega, by omega, by omega, by omega, by omega, hbb.out, by omega, cc, Hun⟩
        · have hbel' := Lib.hid hbel
          clear hbel hb0 ha
          go_wp2_with fail
          go_ret2
          refine ⟨?_, hbel'.out⟩
          have := hinv.out
          rw [List.drop_eq_nil_of_le (by omega), D.countL] at this
          rw [← this] <;> rfl
end Go.Proofs.YtbhmeapnmpgggaaGreatDoor
/- Valid and Parts of package datum and of conduitref01: the walks. Condition: the tree lies in the world. -/
namespace Go.Proofs.YtbhmeapnmpgggaaGreatDoor
open Go.RowKit


set_option maxHeartbeats 1000000 in
set_option maxRecDepth 100000 in
theorem valid1_any (d : D) (w : World) (ha : d.In w) :
    Calls Tryz.prog 86 #[d.v] w fun e w' => e = .returned (.bool d.valid1) ∧ Below w.heap.size w w' := by
  have h1 := Lib.hid (fun w ha => count1_any d.size d 1 4096 w (Nat.le_refl _) ha (by omega) (by omega) (by omega) (by omega))
  have h2 := Lib.hid (fun w ha => right1_any d.size d w (Nat.le_refl _) ha)
  have hbd := D.count_bd d 1 4096 (by omega) (by omega)
  have hv : d.valid1 = (decide ((d.count 1 4096).1 ≤ 4096) && decide ((d.count 1 4096).2 ≤ 16) && d.right) := rfl
  have Ha := Lib.hid ha
  clear ha
  obtain ⟨k, i, x, t, A, c, l⟩ := d
  simp only [D.v, D.cs, D.k_mk, D.i_mk, D.b_mk, D.t_mk, D.l_mk, D.c_mk, D.A_mk] at h1 h2 ⊢
  generalize (D.mk k i x t A c l).valid1 = v at *
  generalize (D.mk k i x t A c l).right = r at *
  generalize (D.mk k i x t A c l).count 1 4096 = y at *
  obtain ⟨y1, y2⟩ := y
  simp only at hv hbd h1
  have Hv := Lib.hid hv
  clear hv
  go_enter Tryz.func86, Tryz.ntmps86
  go_wp2_with fail
  have hal := (Below.refl w.heap.size w).alloc (Nat.le_refl _) (.cells #[Value.int IntKind.i64 k, Value.int IntKind.i64 i, Value.int IntKind.u64 x, Value.string t, Value.slice A l.length c] 25)
  have hin := Ha.out.below hal
  have hb0 := Blk.new w 25 #[Value.int IntKind.i64 k, Value.int IntKind.i64 i, Value.int IntKind.u64 x, Value.string t, Value.slice A l.length c]
  refine (h1.out _ hin).mono ?_
  rintro e w1 ⟨rfl, hbw⟩
  have b1 := hb0.below hbw hb0.lt
  have hk := hal.trans (hbw.mono (by simp))
  have hin1 := hin.below hbw
  have c1 := b1.cell 0
  have c2 := b1.cell 1
  have c3 := b1.cell 2
  have c4 := b1.cell 3
  have c5 := b1.cell 4
  simp at c1 c2 c3 c4 c5
  have hz := b1.lt
  have Hk := Lib.hid (And.intro hk hin1)
  clear hbw hal hin hb0 b1 hk hin1 h1
  by_cases g1 : y1 ≤ 4096
  · by_cases g2 : y2 ≤ 16
    · go_wp2_with fail
      refine (h2.out _ Hk.out.2).mono ?_
      rintro e w2 ⟨rfl, hbw⟩
      have Hk2 := Lib.hid (Hk.out.1.trans (hbw.mono (by omega)))
      clear hbw
      go_wp2_with fail
      go_ret
      exact ⟨by rw [Hv.out]; simp [g1, g2], Hk2.out⟩
    · go_wp2_with fail
      go_ret
      exact ⟨by rw [Hv.out, decide_eq_false (show ¬ y2 ≤ 16 by omega)]; simp, Hk.out.1⟩
  · go_wp2_with fail
    go_ret
    exact ⟨by rw [Hv.out, decide_eq_false (show ¬ y1 ≤ 4096 by omega)]; simp, Hk.out.1⟩

set_option maxHeartbeats 1000000 in
set_option maxRecDepth 100000 in
theorem parts1_any (d : D) (w : World) (ha : d.In w) :
    Calls Tryz.prog 87 #[d.v] w fun e w' => e = .returned (.tuple #[.int .i64 (d.count 1 4096).1, .int .i64 (d.count 1 4096).2]) ∧ Below w.heap.size w w' := by
  have h1 := Lib.hid (fun w ha => count1_any d.size d 1 4096 w (Nat.le_refl _) ha (by omega) (by omega) (by omega) (by omega))
  have hbd := D.count_bd d 1 4096 (by omega) (by omega)
  have Ha := Lib.hid ha
  clear ha
  obtain ⟨k, i, x, t, A, c, l⟩ := d
  simp only [D.v, D.cs, D.k_mk, D.i_mk, D.b_mk, D.t_mk, D.l_mk, D.c_mk, D.A_mk] at h1 ⊢
  generalize (D.mk k i x t A c l).count 1 4096 = y at *
  obtain ⟨y1, y2⟩ := y
  simp only at hbd h1
  go_enter Tryz.func87, Tryz.ntmps87
  go_wp2_with fail
  have hal := (Below.refl w.heap.size w).alloc (Nat.le_refl _) (.cells #[Value.int IntKind.i64 k, Value.int IntKind.i64 i, Value.int IntKind.u64 x, Value.string t, Value.slice A l.length c] 25)
  have hin := Ha.out.below hal
  refine (h1.out _ hin).mono ?_
  rintro e w1 ⟨rfl, hbw⟩
  have Hk := Lib.hid (hal.trans (hbw.mono (by simp)))
  clear hbw hal hin h1
  go_wp2_with fail
  go_ret2
  exact ⟨rfl, Hk.out⟩

set_option maxHeartbeats 1000000 in
set_option maxRecDepth 100000 in
theorem valid0_any (d : D) (w : World) (ha : d.In w) :
    Calls Tryz.prog 67 #[d.v] w fun e w' => e = .returned (.bool d.valid0) ∧ Below w.heap.size w w' := by
  have h1 := Lib.hid (fun (B pb mb : Nat) w ha hlo h2 h3 h4 h5 h6 => look0_any d.size d 1 0 0 B pb mb w (Nat.le_refl _) ha hlo h2 h3 h4 h5 h6 (by omega) (by omega) (by omega) (by omega) (by omega) (by omega))
  have hlo := ha.lo
  have Ha := Lib.hid ha
  clear ha
  have hv : d.valid0 = (d.look 1 0 0).1 := rfl
  obtain ⟨k, i, x, t, A, c, l⟩ := d
  simp only [D.v, D.cs, D.k_mk, D.i_mk, D.b_mk, D.t_mk, D.l_mk, D.c_mk, D.A_mk] at h1 ⊢
  generalize (D.mk k i x t A c l).valid0 = v at *
  generalize (D.mk k i x t A c l).look 1 0 0 = y at *
  obtain ⟨y1, y2, y3⟩ := y
  simp only at hv h1
  subst hv
  go_enter Tryz.func67, Tryz.ntmps67
  go_wp2_with fail
  have hal := (((Below.refl w.heap.size w).alloc (Nat.le_refl _) (.cells #[Value.int IntKind.i64 k, Value.int IntKind.i64 i, Value.int IntKind.u64 x, Value.string t, Value.slice A l.length c] 25)).alloc (by simp <;> omega) (.cells #[Value.int .i64 0] 3)).alloc (by simp <;> omega) (.cells #[Value.int .i64 0] 3)
  have hin := Ha.out.below hal
  refine (h1.out w.heap.size (w.heap.size + 1) (w.heap.size + 2) _ hin hlo (by omega) (by omega) (by omega) ((Blk.new' (by simp) _ _).alloc _) (Blk.new' (by simp) _ _)).mono ?_
  rintro e w1 ⟨rfl, _, _, hk⟩
  have Hk := Lib.hid (hal.trans (hk.below (by simp <;> omega) (by simp <;> omega)))
  clear hk hal hin h1
  go_wp2_with fail
  go_ret
  exact ⟨rfl, Hk.out⟩

set_option maxHeartbeats 1000000 in
set_option maxRecDepth 100000 in
theorem parts0_any (d : D) (w : World) (ha : d.In w) :
    Calls Tryz.prog 96 #[d.v] w fun e w' => e = .returned (.tuple #[.int .i64 (d.look 1 0 0).2.1, .int .i64 (d.look 1 0 0).2.2]) ∧ Below w.heap.size w w' := by
  have h1 := Lib.hid (fun (B pb mb : Nat) w ha hlo h2 h3 h4 h5 h6 => look0_any d.size d 1 0 0 B pb mb w (Nat.le_refl _) ha hlo h2 h3 h4 h5 h6 (by omega) (by omega) (by omega) (by omega) (by omega) (by omega))
  have hlo := ha.lo
  have Ha := Lib.hid ha
  clear ha
  obtain ⟨k, i, x, t, A, c, l⟩ := d
  simp only [D.v, D.cs, D.k_mk, D.i_mk, D.b_mk, D.t_mk, D.l_mk, D.c_mk, D.A_mk] at h1 ⊢
  generalize (D.mk k i x t A c l).look 1 0 0 = y at *
  obtain ⟨y1, y2, y3⟩ := y
  simp only at h1
  go_enter Tryz.func96, Tryz.ntmps96
  go_wp2_with fail
  have hal := (((Below.refl w.heap.size w).alloc (Nat.le_refl _) (.cells #[Value.int IntKind.i64 k, Value.int IntKind.i64 i, Value.int IntKind.u64 x, Value.string t, Value.slice A l.length c] 25)).alloc (by simp <;> omega) (.cells #[Value.int .i64 0] 3)).alloc (by simp <;> omega) (.cells #[Value.int .i64 0] 3)
  have hin := Ha.out.below hal
  refine (h1.out w.heap.size (w.heap.size + 1) (w.heap.size + 2) _ hin hlo (by omega) (by omega) (by omega) ((Blk.new' (by simp) _ _).alloc _) (Blk.new' (by simp) _ _)).mono ?_
  rintro e w1 ⟨rfl, b1, b2, hk⟩
  have Hk := Lib.hid (hal.trans (hk.below (by simp <;> omega) (by simp <;> omega)))
  have c1 := b1.cell 0
  have c2 := b2.cell 0
  simp at c1 c2
  clear hk hal hin h1 b1 b2
  go_wp2_with fail
  go_quiet (fail)
  go_wp2_with fail
  go_ret2
  exact ⟨rfl, ⟨Hk.out.os, Hk.out.tape, Hk.out.output, Hk.out.size, Hk.out.block⟩⟩
end Go.Proofs.YtbhmeapnmpgggaaGreatDoor
