/- conduitref35.count: the walk. Condition: the tree lies in the world; the depth and what is left are small. -/
import Derived.Test.YtbhmeapnmpgggaaGreatDoorKit
import Derived.Test.YtbhmeapnmpgggaaGreatDoorBaseE
namespace Go.Proofs.YtbhmeapnmpgggaaGreatDoor
open Go.RowKit

mutual
theorem E.count_bd : ∀ (d : E) (deep left : Int), left ≤ 4096 → 1 ≤ d.count deep left ∧ d.count deep left ≤ 4097
  | .mk _ _ _ _ _ _ _ _ _ _ l, deep, left, h' => by
    rw [E.count]
    split
    · exact ⟨by omega, by omega⟩
    · exact E.countL_bd l deep left 1 h' (by omega) (by omega)
theorem E.countL_bd : ∀ (l : List E) (deep left n : Int), left ≤ 4096 → 1 ≤ n → n ≤ left → 1 ≤ E.countL l deep left n ∧ E.countL l deep left n ≤ 4097
  | [], deep, left, n, h', h1, h2 => by rw [E.countL]; exact ⟨h1, by omega⟩
  | x :: l, deep, left, n, h', h1, h2 => by
    have hx := E.count_bd x (deep + 1) (left - n) (by omega)
    rw [E.countL]
    split
    · exact ⟨by omega, by omega⟩
    · exact E.countL_bd l deep left _ h' (by omega) (by omega)
end

set_option maxHeartbeats 1000000 in
set_option maxRecDepth 100000 in
theorem countE_any (n : Nat) : ∀ (d : E) (deep left : Int) (w : World), d.size ≤ n → d.In w → 0 ≤ deep → deep ≤ 17 → -5000 ≤ left → left ≤ 4096 →
    Calls Tryz.prog 42 #[d.v, .int .i64 deep, .int .i64 left] w fun e w' => e = .returned (.int .i64 (d.count deep left)) ∧ Below w.heap.size w w' := by
  induction n with
  | zero => intro d _ _ w h; rw [E.size_eq] at h; omega
  | succ n ih =>
    intro d deep left w hn ha hd0 hd1 hl0 hl1
    have har := ha.rng
    have hsn : E.sizeL d.l ≤ n := by rw [E.size_eq] at hn; omega
    have hq : d.count deep left = if 16 < deep ∨ left ≤ 0 then 4097 else E.countL d.l deep left 1 := by cases d; rw [E.count]; rfl
    obtain ⟨_, _, _, _, _, _, _, hr1, hr2, _⟩ := har
    have Ha := Lib.hid ha
    have hA : ∀ q x, d.l[q]? = some x → _ := fun q x => ha.at_ (q := q) (e := x)
    have HA := Lib.hid hA
    clear ha hA
    simp only [E.v, E.cs]
    generalize d.k = f0, d.id = f1, d.code = f2, d.t = f3, d.body.k = f4, d.body.i = f5, d.body.b = f6, d.body.t = f7, d.body.A = f8, d.body.l.length = f9, d.body.c = f10, d.cA = f11, d.codes.length = f12, d.cc = f13, d.c = c at *
    generalize d.count deep left = r at *
    generalize d.l = l at *
    generalize d.A = A at *
    clear Ha hn
    have hb0 := Lib.hid (show Below w.heap.size w (w.alloc (.cells #[Value.int .i64 f0, .int .i64 f1, .int .i64 f2, .string f3, .int .i64 f4, .int .i64 f5, .int .u64 f6, .string f7, .slice f8 f9 f10, .slice f11 f12 f13, .slice A l.length c] 29)) from (Below.refl _ _).alloc (Nat.le_refl _) _)
    by_cases h : 16 < deep ∨ left ≤ 0
    · rw [if_pos h] at hq
      subst hq
      clear ih hsn HA
      go_enter Tryz.func42, Tryz.ntmps42
      by_cases h' : 16 < deep
      · go_wp2_with fail
        go_ret
        exact ⟨rfl, hb0.out⟩
      · have h'' : left ≤ 0 := by omega
        go_wp2_with fail
        go_ret
        exact ⟨rfl, hb0.out⟩
    · have h1 : ¬ 16 < deep := by omega
      have h2 : ¬ left ≤ 0 := by omega
      rw [if_neg h] at hq
      have Hg := Lib.hid hq
      clear hq h
      go_enter Tryz.func42, Tryz.ntmps42
      go_wp2_with fail
      go_loopg [7, 18] l.length (fun g s7 s wr => ∃ (j : Nat) (m : Int), s = .int .i64 j ∧ s7 = .int .i64 m ∧ j + g = l.length ∧ 1 ≤ m ∧ m ≤ left ∧ Below w.heap.size w wr ∧ w.heap.size + 1 ≤ wr.heap.size ∧ wr.cell? ⟨w.heap.size, 10, none⟩ = some (Value.slice A l.length c) ∧ Hid (r = E.countL (l.drop j) deep left m))
      case atStart => exact ⟨0, 1, rfl, rfl, by omega, by omega, by omega, hb0.out, by simp, by simp [go_sem], Hg⟩
      case round =>
        obtain ⟨j, m, rfl, rfl, hj, hm1, hm2, hbel, hz, ca, hinv⟩ := hrel
        by_cases hlt : j < l.length
        · obtain ⟨x', ex⟩ : ∃ x', l[j]? = some x' := ⟨_, List.getElem?_eq_getElem hlt⟩
          obtain ⟨⟨ad, rfl, h1⟩, ha'⟩ := HA.out j x' ex
          obtain ⟨p0, p1, p2, p3, p4, p5, p6, p7, p8, p9, p10⟩ := (h1.below hbel).eleven
          have hx : x'.size ≤ n := Nat.le_trans (E.sizeL_le ex) hsn
          have ha1 := ha'.below hbel
          have hst := Lib.hid (drop_of_get ex)
          have hbel' := Lib.hid hbel
          clear h1 HA ha' hb0 ex hbel
          go_wp2_with fail
          refine (ih x' (deep + 1) (left - m) wr hx ha1 (by omega) (by omega) (by omega) (by omega)).mono ?_
          rintro e w1 ⟨rfl, hbw⟩
          have cc := (hbw.cell (p := ⟨w.heap.size, 10, none⟩) (show w.heap.size < wr.heap.size by omega)).trans ca
          have hz1 : wr.heap.size ≤ w1.heap.size := hbw.size
          have hbb := Lib.hid (hbel'.out.trans (hbw.mono (show w.heap.size ≤ wr.heap.size by omega)))
          clear hbw
          have hcb := E.count_bd x' (deep + 1) (left - m) (by omega)
          have hun := hinv.out
          rw [hst.out, E.countL] at hun
          generalize x'.count (deep + 1) (left - m) = y1 at *
          by_cases hc1 : left < m + y1
          · rw [if_pos hc1] at hun
            subst hun
            go_wp2_with fail
            go_ret
            exact ⟨rfl, hbb.out⟩
          · rw [if_neg hc1] at hun
            have Hun := Lib.hid hun
            clear hun
            go_wp2_with fail
            go_roundg (gk - 1)
            case measure => omega
            case rel => exact ⟨j + 1, m + y1, by go_num, rfl, by omega, by omega, by omega, hbb.out, by omega, cc, Hun⟩
        · have hbel' := Lib.hid hbel
          clear hbel hb0 HA
          go_wp2_with fail
          go_ret
          have := hinv.out
          rw [List.drop_eq_nil_of_le (by omega), E.countL] at this
          exact ⟨by rw [this] <;> rfl, hbel'.out⟩
end Go.Proofs.YtbhmeapnmpgggaaGreatDoor
