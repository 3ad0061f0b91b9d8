/- conduitref35.weight: the walk. Condition: the tree lies in the world, it is as its kinds have it (so the sums are small). -/
import Derived.Test.YtbhmeapnmpgggaaGreatDoorValid
import Derived.Test.YtbhmeapnmpgggaaGreatDoorBaseE
namespace Go.Proofs.YtbhmeapnmpgggaaGreatDoor
open Go.RowKit

theorem E.own_bd (d : E) (h : d.Rng) : 0 ≤ d.own ∧ d.own ≤ 140737488355328 + 4097 := by
  have h1 := h.2.2.2.2.2.2.1
  have h2 := D.count_bd d.body 1 4096 (by omega) (by omega)
  unfold E.own
  split <;> omega
mutual
theorem E.weight_bd {w : World} : ∀ (d : E), d.In w → 0 ≤ d.weight ∧ d.weight ≤ 140737488355328 + 4097
  | .mk k id code t body cA cc codes A c l, h => by
    have ho := E.own_bd _ h.1
    rw [E.weight]
    exact E.weightL_bd l _ ho.1 ho.2 h.2.2.2
theorem E.weightL_bd {w : World} {A : Option Addr} : ∀ (l : List E) (n : Int) {j : Nat}, 0 ≤ n → n ≤ 140737488355328 + 4097 → E.InL w A j l → 0 ≤ E.weightL l n ∧ E.weightL l n ≤ 140737488355328 + 4097
  | [], n, _, h1, h2, _ => by rw [E.weightL]; exact ⟨h1, h2⟩
  | x :: l, n, _, h1, h2, h => by
    have hx := E.weight_bd x h.2.1
    rw [E.weightL]
    split
    · omega
    · exact E.weightL_bd l _ (by omega) (by omega) h.2.2
end

set_option maxHeartbeats 1000000 in
set_option maxRecDepth 100000 in
theorem weightE_any (n : Nat) : ∀ (d : E) (w : World), d.size ≤ n → d.In w →
    Calls Tryz.prog 44 #[d.v] w fun e w' => e = .returned (.int .i64 d.weight) ∧ Below w.heap.size w w' := by
  induction n with
  | zero => intro d w h; rw [E.size_eq] at h; omega
  | succ n ih =>
    intro d w hn ha
    have har := ha.rng
    have hob := E.own_bd d har
    obtain ⟨_, _, _, _, hr5, hr6, hr7, hr1, hr2, _⟩ := har
    have hP := Lib.hid (fun w (h : d.In w) => parts1_any d.body w h.bod)
    have hpb0 := D.count_bd d.body 1 4096 (by omega) (by omega)
    have hsn : E.sizeL d.l ≤ n := by rw [E.size_eq] at hn; omega
    have hq : d.weight = E.weightL d.l d.own := by cases d; rw [E.weight]; rfl
    have hO : d.own = d.codes.length + if d.k = 5 then (d.body.count 1 4096).1 else 0 := rfl
    have HA := Lib.hid (show ∀ q x, d.l[q]? = some x → ((∃ ad, d.A = some ad ∧ At w (ad.add (q * 11)) x.cs) ∧ x.In w) ∧ x.size ≤ n from fun q x hq => ⟨ha.at_ hq, Nat.le_trans (E.sizeL_le hq) hsn⟩)
    have Ha := Lib.hid ha
    clear ha hn hsn
    simp only [E.v, E.cs, D.v, D.cs] at hP ⊢
    generalize d.weight = res at *
    generalize d.own = own at *
    generalize d.body.count 1 4096 = bl at *
    generalize d.k = f0, d.id = f1, d.code = f2, d.t = f3, d.body.k = f4, d.body.i = f5, d.body.b = f6, d.body.t = f7, d.body.A = f8, d.body.l.length = f9, d.body.c = f10, d.cA = f11, d.codes.length = f12, d.cc = f13, d.A = A, d.c = c at *
    generalize d.l = l at *
    obtain ⟨bl1, bl2⟩ := bl
    simp only at hP hpb0 hO
    have Hq := Lib.hid hq
    have HO := Lib.hid hO
    clear hq hO
    have hal := (Below.refl w.heap.size w).alloc (Nat.le_refl _) (.cells #[Value.int .i64 f0, .int .i64 f1, .int .i64 f2, .string f3, .int .i64 f4, .int .i64 f5, .int .u64 f6, .string f7, .slice f8 f9 f10, .slice f11 f12 f13, .slice A l.length c] 29)
    have bx := Blk.new w 29 #[Value.int .i64 f0, .int .i64 f1, .int .i64 f2, .string f3, .int .i64 f4, .int .i64 f5, .int .u64 f6, .string f7, .slice f8 f9 f10, .slice f11 f12 f13, .slice A l.length c]
    have hin := Ha.out.below hal
    go_enter Tryz.func44, Tryz.ntmps44
    go_upto_if 12 with fail
    generalize w.alloc (.cells #[Value.int .i64 f0, .int .i64 f1, .int .i64 f2, .string f3, .int .i64 f4, .int .i64 f5, .int .u64 f6, .string f7, .slice f8 f9 f10, .slice f11 f12 f13, .slice A l.length c] 29) = W at *
    have e0 := bx.cell 0
    have e4 := bx.cell 4
    have e5 := bx.cell 5
    have e6 := bx.cell 6
    have e7 := bx.cell 7
    have e8 := bx.cell 8
    have e9 := bx.cell 9
    simp at e0 e4 e5 e6 e7 e8 e9
    have HW := Lib.hid (And.intro hal (And.intro bx hin))
    clear hal bx hin Ha
    go_cut [3] (fun s3 wx => s3 = .int .i64 own ∧ Below w.heap.size w wx ∧ Blk wx w.heap.size 29 #[Value.int .i64 f0, .int .i64 f1, .int .i64 f2, .string f3, .int .i64 f4, .int .i64 f5, .int .u64 f6, .string f7, .slice f8 f9 f10, .slice f11 f12 f13, .slice A l.length c])
    case first =>
      clear ih HA Hq
      have ho := HO.out
      by_cases h5 : f0 = 5
      · subst h5
        rw [if_pos rfl] at ho
        subst ho
        go_wp2_with fail
        refine (hP.out _ HW.out.2.2).mono ?_
        rintro e w2 ⟨rfl, hbw⟩
        have Hb := Lib.hid (And.intro (HW.out.1.trans (hbw.mono HW.out.1.size)) (HW.out.2.1.below hbw HW.out.2.1.lt))
        clear hbw e0 e4 e5 e6 e7 e8 e9
        go_wp2_with fail
        go_meet
        case rel => exact ⟨rfl, Hb.out.1, Hb.out.2⟩
      · rw [if_neg h5, Int.add_zero] at ho
        subst ho
        clear hP
        go_wp2_with fail
        go_meet
        case rel => exact ⟨rfl, HW.out.1, HW.out.2.1⟩
    case rest =>
      clear hP HO e0 e4 e5 e6 e7 e8 e9 HW
      obtain ⟨rfl, hbel, bx⟩ := hcut
      have e10 := bx.cell 10
      simp at e10
      have HW := Lib.hid (And.intro hbel bx)
      clear hbel bx
      go_wp2_with fail
      go_loopg [3, 25] l.length (fun g s3 s wr => ∃ (j : Nat) (m : Int), s = .int .i64 j ∧ s3 = .int .i64 m ∧ j + g = l.length ∧ 0 ≤ m ∧ m ≤ 140737488355328 + 4097 ∧ Below w.heap.size w wr ∧ Blk wr w.heap.size 29 #[Value.int .i64 f0, .int .i64 f1, .int .i64 f2, .string f3, .int .i64 f4, .int .i64 f5, .int .u64 f6, .string f7, .slice f8 f9 f10, .slice f11 f12 f13, .slice A l.length c] ∧ Hid (res = E.weightL (l.drop j) m))
      case atStart => exact ⟨0, own, rfl, rfl, by omega, by omega, by omega, HW.out.1, HW.out.2, Hq⟩
      case round =>
        clear e10
        obtain ⟨j, m, rfl, rfl, hj, hm1, hm2, hbel, bx, hinv⟩ := hrel
        have e10 := bx.cell 10
        simp at e10
        by_cases hlt : j < l.length
        · obtain ⟨x', ex⟩ : ∃ x', l[j]? = some x' := ⟨_, List.getElem?_eq_getElem hlt⟩
          obtain ⟨⟨⟨ad, rfl, h1⟩, ha'⟩, hx⟩ := HA.out j x' ex
          obtain ⟨p0, p1, p2, p3, p4, p5, p6, p7, p8, p9, p10⟩ := (h1.below hbel).eleven
          have ha1 := ha'.below hbel
          have hxb := E.weight_bd x' ha'
          have hst := hinv.out
          rw [drop_of_get ex, E.weightL] at hst
          have Hst := Lib.hid hst
          have Hb := Lib.hid (And.intro hbel bx)
          clear h1 ha' HA ex hbel bx HW hst
          go_wp2_with fail
          refine (ih x' wr hx ha1).mono ?_
          rintro e w3 ⟨rfl, hbw⟩
          have Hb2 := Lib.hid (And.intro (Hb.out.1.trans (hbw.mono Hb.out.1.size)) (Hb.out.2.below hbw Hb.out.2.lt))
          clear hbw
          have hun := Hst.out
          generalize x'.weight = y at *
          by_cases hc : 4096 < m + y
          · rw [if_pos hc] at hun
            subst hun
            go_wp2_with fail
            go_ret
            exact ⟨rfl, Hb2.out.1⟩
          · rw [if_neg hc] at hun
            have Hun := Lib.hid hun
            clear hun
            go_wp2_with fail
            go_roundg (gk - 1)
            case measure => omega
            case rel => exact ⟨j + 1, m + y, by go_num, rfl, by omega, by omega, by omega, Hb2.out.1, Hb2.out.2, Hun⟩
        · have Hb := Lib.hid hbel
          clear hbel bx HA HW ih
          go_wp2_with fail
          go_ret
          refine ⟨?_, Hb.out⟩
          have := hinv.out
          rw [List.drop_eq_nil_of_le (by omega), E.weightL] at this
          rw [this] <;> rfl
end Go.Proofs.YtbhmeapnmpgggaaGreatDoor
