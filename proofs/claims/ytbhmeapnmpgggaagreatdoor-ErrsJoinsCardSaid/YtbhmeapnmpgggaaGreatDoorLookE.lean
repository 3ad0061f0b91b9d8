/- errs.look: the walk. Conditions: the tree lies in the world below B, the two counters are two blocks of one int each from B on. -/
import Derived.Test.YtbhmeapnmpgggaaGreatDoorFitsE
namespace Go.Proofs.YtbhmeapnmpgggaaGreatDoor
open Go.RowKit

theorem E.own0_bd (d : E) (h : d.Rng) : 0 ≤ d.own0 ∧ d.own0 ≤ 140737488355328 + 4097 := by
  have h1 := h.2.2.2.2.2.2.1
  have h2 := D.look_bd d.body 1 0 0 (by omega)
  unfold E.own0
  split <;> omega
mutual
theorem E.look_bd : ∀ (d : E) (deep p m : Int), p ≤ 4096 → 0 ≤ m → (d.look deep p m).1 = true → p ≤ (d.look deep p m).2.1 ∧ (d.look deep p m).2.1 ≤ 4096 ∧ 0 ≤ (d.look deep p m).2.2 ∧ (d.look deep p m).2.2 ≤ 4096
  | .mk k id code t body cA cc codes A c l, deep, p, m, h, hm => by
    rw [E.look]
    split
    · intro h; cases h
    · intro e
      have ho : 0 ≤ (E.mk k id code t body cA cc codes A c l).own0 := by
        have h2 := D.look_bd body 1 0 0 (by omega)
        unfold E.own0; split <;> (simp only [E.body_mk, E.codes_mk]; omega)
      have := E.lookL_bd k l (deep + 1) (p + 1) (m + (E.mk k id code t body cA cc codes A c l).own0) (by omega) (by omega) e
      exact ⟨by omega, this.2⟩
theorem E.lookL_bd (k : Int) : ∀ (l : List E) (deep p m : Int), p ≤ 4096 → 0 ≤ m → (E.lookL k l deep p m).1 = true → p ≤ (E.lookL k l deep p m).2.1 ∧ (E.lookL k l deep p m).2.1 ≤ 4096 ∧ 0 ≤ (E.lookL k l deep p m).2.2 ∧ (E.lookL k l deep p m).2.2 ≤ 4096
  | [], deep, p, m, h, hm => by rw [E.lookL]; intro e; simp only [decide_eq_true_eq] at e; exact ⟨by simp, h, hm, e⟩
  | x :: l, deep, p, m, h, hm => by
    have hx := E.look_bd x deep p m h hm
    rw [E.lookL]
    split
    · intro e; cases e
    · split
      · rename_i e
        intro e2
        have h1 := hx e
        have := E.lookL_bd k l deep _ _ (by omega) (by omega) e2
        exact ⟨by omega, this.2⟩
      · intro e; cases e
end

set_option maxHeartbeats 2000000 in
set_option maxRecDepth 100000 in
theorem lookE_any (n : Nat) : ∀ (d : E) (deep p m : Int) (B pb mb : Nat) (w : World), d.size ≤ n → d.In w → d.Lo B → B ≤ pb → B ≤ mb → pb ≠ mb → 
    Blk w pb 3 #[.int .i64 p] → Blk w mb 3 #[.int .i64 m] → 1 ≤ deep → deep ≤ 17 → 0 ≤ p → p ≤ 4096 → 0 ≤ m → m ≤ deep * 1125899906842624 →
    Calls Tryz.prog 59 #[d.v, .int .i64 deep, .pointer (some ⟨pb, 0, none⟩), .pointer (some ⟨mb, 0, none⟩)] w fun e w' => e = .returned (.bool (d.look deep p m).1) ∧ 
      Blk w' pb 3 #[.int .i64 (d.look deep p m).2.1] ∧ Blk w' mb 3 #[.int .i64 (d.look deep p m).2.2] ∧ Kept [pb, mb] w w' := by
  induction n with
  | zero => intro d _ _ _ _ _ _ w h; rw [E.size_eq] at h; omega
  | succ n ih =>
    intro d deep p m B pb mb w hn ha hlo hpb hmb hne bp bm hd0 hd1 hp0 hp1 hm0 hm1
    have har := ha.rng
    have hob := E.own0_bd d har
    obtain ⟨_, _, _, _, hr5, hr6, hr7, hr1, hr2, _⟩ := har
    have hF := Lib.hid (fun w (h : d.In w) => fitsE_any d w h)
    have hP := Lib.hid (fun w (h : d.In w) => parts0_any d.body w h.bod)
    have hpb0 := D.look_bd d.body 1 0 0 (by omega)
    have hsn : E.sizeL d.l ≤ n := by rw [E.size_eq] at hn; omega
    have hq : d.look deep p m = if 4096 < p + 1 ∨ 16 < deep ∨ d.fit = false then (false, p + 1, m) else E.lookL d.k d.l (deep + 1) (p + 1) (m + d.own0) := by cases d; rw [E.look]; rfl
    have hO : d.own0 = d.codes.length + if d.k = 5 then (d.body.look 1 0 0).2.1 else 0 := rfl
    have HA := Lib.hid (show ∀ q x, d.l[q]? = some x → ((∃ ad, d.A = some ad ∧ At w (ad.add (q * 11)) x.cs ∧ ad.block < B) ∧ x.In w ∧ x.Lo B ∧ x.size ≤ n) from fun q x hq => by
      obtain ⟨⟨ad, e, hat⟩, hin⟩ := ha.at_ hq
      have hl := E.LoL.at_ (B := B) (A := d.A) (l := d.l) (by cases d; exact hlo.2.2) hq
      exact ⟨⟨ad, e, hat, hl.1 ad e⟩, hin, hl.2, Nat.le_trans (E.sizeL_le hq) hsn⟩)
    have Ha := Lib.hid (And.intro ha hlo)
    have hz0 := bp.lt
    have hz1 := bm.lt
    have c1 := bp.cell 0
    have c2 := bm.cell 0
    have z1 := bp.frozen 0
    have z2 := bm.frozen 0
    have Hbp := Lib.hid bp
    have Hbm := Lib.hid bm
    have hne' : ¬ mb = pb := fun e => hne e.symm
    simp at c1 c2
    simp only [E.v, E.cs, D.v, D.cs] at hF hP ⊢
    clear ha hlo hn hsn bp bm
    generalize d.look deep p m = r at *
    generalize d.fit = ft at *
    generalize d.own0 = own at *
    generalize d.body.look 1 0 0 = bl at *
    generalize d.k = f0, d.id = f1, d.code = f2, d.t = f3, d.body.k = f4, d.body.i = f5, d.body.b = f6, d.body.t = f7, d.body.A = f8, d.body.l.length = f9, d.body.c = f10, d.cA = f11, d.codes.length = f12, d.cc = f13, d.A = A, d.c = c at *
    generalize d.l = l at *
    obtain ⟨bl1, bl2, bl3⟩ := bl
    simp only at hP hpb0 hO
    have Hq := Lib.hid hq
    have HO := Lib.hid hO
    clear hq hO
    go_enter Tryz.func59, Tryz.ntmps59
    go_upto_region 2 with fail
    have bp : Blk ((w.setCell ⟨pb, 0, none⟩ (.int .i64 (p + 1))).alloc (.cells #[Value.int .i64 f0, .int .i64 f1, .int .i64 f2, .string f3, .int .i64 f4, .int .i64 f5, .int .u64 f6, .string f7, .slice f8 f9 f10, .slice f11 f12 f13, .slice A l.length c] 29)) pb 3 #[.int .i64 (p + 1)] := (Hbp.out.set_ 0 _).alloc _
    have bm : Blk ((w.setCell ⟨pb, 0, none⟩ (.int .i64 (p + 1))).alloc (.cells #[Value.int .i64 f0, .int .i64 f1, .int .i64 f2, .string f3, .int .i64 f4, .int .i64 f5, .int .u64 f6, .string f7, .slice f8 f9 f10, .slice f11 f12 f13, .slice A l.length c] 29)) mb 3 #[.int .i64 m] := (Hbm.out.far (p := ⟨pb, 0, none⟩) hne' _).alloc _
    have bx : Blk ((w.setCell ⟨pb, 0, none⟩ (.int .i64 (p + 1))).alloc (.cells #[Value.int .i64 f0, .int .i64 f1, .int .i64 f2, .string f3, .int .i64 f4, .int .i64 f5, .int .u64 f6, .string f7, .slice f8 f9 f10, .slice f11 f12 f13, .slice A l.length c] 29)) w.heap.size 29 #[Value.int .i64 f0, .int .i64 f1, .int .i64 f2, .string f3, .int .i64 f4, .int .i64 f5, .int .u64 f6, .string f7, .slice f8 f9 f10, .slice f11 f12 f13, .slice A l.length c] := Blk.new' (by simp [World.setCell]) _ _
    have hk : Kept [pb, mb] w ((w.setCell ⟨pb, 0, none⟩ (.int .i64 (p + 1))).alloc (.cells #[Value.int .i64 f0, .int .i64 f1, .int .i64 f2, .string f3, .int .i64 f4, .int .i64 f5, .int .u64 f6, .string f7, .slice f8 f9 f10, .slice f11 f12 f13, .slice A l.length c] 29)) := ((Kept.refl _ _).setCell (p := ⟨pb, 0, none⟩) (.inl (by simp)) _).alloc _
    generalize (w.setCell ⟨pb, 0, none⟩ (.int .i64 (p + 1))).alloc (.cells #[Value.int .i64 f0, .int .i64 f1, .int .i64 f2, .string f3, .int .i64 f4, .int .i64 f5, .int .u64 f6, .string f7, .slice f8 f9 f10, .slice f11 f12 f13, .slice A l.length c] 29) = W at *
    have hbl : Below B w W := hk.below (by omega) (by simp; omega)
    have hin := Ha.out.1.below' hbl Ha.out.2
    clear c1 c2 z1 z2 Hbp Hbm hbl
    have c1 := bp.cell 0
    have e0 := bx.cell 0
    have e1 := bx.cell 1
    have e2 := bx.cell 2
    have e3 := bx.cell 3
    have e4 := bx.cell 4
    have e5 := bx.cell 5
    have e6 := bx.cell 6
    have e7 := bx.cell 7
    have e8 := bx.cell 8
    have e9 := bx.cell 9
    have e10 := bx.cell 10
    simp at c1 e0 e1 e2 e3 e4 e5 e6 e7 e8 e9 e10
    have HW := Lib.hid (And.intro bp (And.intro bm (And.intro bx (And.intro hk hin))))
    have hz2 := bx.lt
    clear bp bm bx hk hin
    have hq := Hq.out
    by_cases g1 : 4096 < p + 1
    · rw [if_pos (.inl g1)] at hq
      obtain rfl := hq
      clear hF hP ih HA Ha HO Hq
      go_wp2_with fail
      go_ret
      exact ⟨rfl, HW.out.1, HW.out.2.1, HW.out.2.2.2.1⟩
    · by_cases g2 : 16 < deep
      · rw [if_pos (.inr (.inl g2))] at hq
        obtain rfl := hq
        clear hF hP ih HA Ha HO Hq
        go_wp2_with fail
        go_ret
        exact ⟨rfl, HW.out.1, HW.out.2.1, HW.out.2.2.2.1⟩
      · go_wp2_with fail
        refine (hF.out _ HW.out.2.2.2.2).mono ?_
        rintro e w1 ⟨rfl, hbw⟩
        have bp := HW.out.1.below hbw HW.out.1.lt
        have bm := HW.out.2.1.below hbw HW.out.2.1.lt
        have bx := HW.out.2.2.1.below hbw HW.out.2.2.1.lt
        have hk := HW.out.2.2.2.1.trans (Kept.of_below hbw _)
        have hin := HW.out.2.2.2.2.below hbw
        clear c1 e0 e1 e2 e3 e4 e5 e6 e7 e8 e9 e10 hbw hz2 hF HW
        have hz2 := bx.lt
        have c1 := bp.cell 0
        have c2 := bm.cell 0
        have z1 := bm.frozen 0
        have e0 := bx.cell 0
        have e1 := bx.cell 1
        have e2 := bx.cell 2
        have e3 := bx.cell 3
        have e4 := bx.cell 4
        have e5 := bx.cell 5
        have e6 := bx.cell 6
        have e7 := bx.cell 7
        have e8 := bx.cell 8
        have e9 := bx.cell 9
        have e10 := bx.cell 10
        simp at c1 c2 e0 e1 e2 e3 e4 e5 e6 e7 e8 e9 e10
        have HW := Lib.hid (And.intro bp (And.intro bm (And.intro bx (And.intro hk hin))))
        clear bp bm bx hk hin
        cases ft
        · rw [if_pos (.inr (.inr rfl))] at hq
          obtain rfl := hq
          clear hP ih HA Ha HO Hq
          go_wp2_with fail
          go_ret
          exact ⟨rfl, HW.out.1, HW.out.2.1, HW.out.2.2.2.1⟩
        · rw [if_neg (by simp; omega)] at hq
          clear Hq
          have Hq := Lib.hid hq
          clear hq
          go_upto_region 4 with fail
          go_still_tail 8, (by kernel_rfl)
          go_upto_region 5 with fail
          have bp : Blk (w1.setCell ⟨mb, 0, none⟩ (.int .i64 (m + f12))).drew pb 3 #[.int .i64 (p + 1)] := (HW.out.1.far (p := ⟨mb, 0, none⟩) hne _).drew
          have bm : Blk (w1.setCell ⟨mb, 0, none⟩ (.int .i64 (m + f12))).drew mb 3 #[.int .i64 (m + f12)] := (HW.out.2.1.set_ 0 _).drew
          have bx : Blk (w1.setCell ⟨mb, 0, none⟩ (.int .i64 (m + f12))).drew w.heap.size 29 #[Value.int .i64 f0, .int .i64 f1, .int .i64 f2, .string f3, .int .i64 f4, .int .i64 f5, .int .u64 f6, .string f7, .slice f8 f9 f10, .slice f11 f12 f13, .slice A l.length c] := (HW.out.2.2.1.far (p := ⟨mb, 0, none⟩) (show w.heap.size ≠ mb by omega) _).drew
          have hk : Kept [pb, mb] w (w1.setCell ⟨mb, 0, none⟩ (.int .i64 (m + f12))).drew := (HW.out.2.2.2.1.setCell (p := ⟨mb, 0, none⟩) (.inl (by simp)) _).drew
          generalize (w1.setCell ⟨mb, 0, none⟩ (.int .i64 (m + f12))).drew = W2 at *
          have hbl : Below B w W2 := hk.below (by omega) (by simp; omega)
          have hin := Ha.out.1.below' hbl Ha.out.2
          clear c1 c2 e0 e1 e2 e3 e4 e5 e6 e7 e8 e9 e10 z1 HW hbl hz2
          have c2 := bm.cell 0
          have z1 := bm.frozen 0
          have hz2 := bx.lt
          have e0 := bx.cell 0
          have e1 := bx.cell 1
          have e2 := bx.cell 2
          have e3 := bx.cell 3
          have e4 := bx.cell 4
          have e5 := bx.cell 5
          have e6 := bx.cell 6
          have e7 := bx.cell 7
          have e8 := bx.cell 8
          have e9 := bx.cell 9
          have e10 := bx.cell 10
          simp at c2 e0 e1 e2 e3 e4 e5 e6 e7 e8 e9 e10
          have HW := Lib.hid (And.intro bp (And.intro bm (And.intro bx (And.intro hk hin))))
          clear bp bm bx hk hin
          go_upto_if 41 with fail
          go_cut [] (fun wx => Blk wx pb 3 #[.int .i64 (p + 1)] ∧ Blk wx mb 3 #[.int .i64 (m + own)] ∧ Blk wx w.heap.size 29 #[Value.int .i64 f0, .int .i64 f1, .int .i64 f2, .string f3, .int .i64 f4, .int .i64 f5, .int .u64 f6, .string f7, .slice f8 f9 f10, .slice f11 f12 f13, .slice A l.length c] ∧ Kept [pb, mb] w wx ∧ d.In wx)
          case first =>
            clear ih HA Hq
            have ho := HO.out
            by_cases h5 : f0 = 5
            · subst h5
              rw [if_pos rfl] at ho
              subst ho
              go_wp2_with fail
              refine (hP.out _ HW.out.2.2.2.2).mono ?_
              rintro e w3 ⟨rfl, hbw⟩
              have bp := HW.out.1.below hbw HW.out.1.lt
              have bm := HW.out.2.1.below hbw HW.out.2.1.lt
              have bx := HW.out.2.2.1.below hbw HW.out.2.2.1.lt
              have hk := HW.out.2.2.2.1.trans (Kept.of_below hbw _)
              clear c2 e0 e1 e2 e3 e4 e5 e6 e7 e8 e9 e10 hbw hz2 hP HW z1
              have hz2 := bx.lt
              have c2 := bm.cell 0
              have z1 := bm.frozen 0
              simp at c2
              have HW := Lib.hid (And.intro bp (And.intro bm (And.intro bx hk)))
              clear bp bm bx hk
              go_wp2_with fail
              go_meet
              case rel =>
                have hk : Kept [pb, mb] w (w3.setCell ⟨mb, 0, none⟩ (.int .i64 (m + f12 + bl2))) := HW.out.2.2.2.setCell (p := ⟨mb, 0, none⟩) (.inl (by simp)) _
                refine ⟨HW.out.1.far (p := ⟨mb, 0, none⟩) hne _, ?_, HW.out.2.2.1.far (p := ⟨mb, 0, none⟩) (show w.heap.size ≠ mb by omega) _, hk, Ha.out.1.below' (hk.below (by omega) (by simp; omega)) Ha.out.2⟩
                rw [← Int.add_assoc]
                exact HW.out.2.1.set_ 0 _
            · rw [if_neg h5, Int.add_zero] at ho
              subst ho
              clear hP
              go_wp2_with fail
              go_meet
              case rel => exact HW.out
          case rest =>
            clear c2 e0 e1 e2 e3 e4 e5 e6 e7 e8 e9 e10 z1 HW hz2 hP HO
            obtain ⟨bp, bm, bx, hk, hin⟩ := hcut
            have e0 := bx.cell 0
            have e10 := bx.cell 10
            simp at e0 e10
            have HW := Lib.hid (And.intro bp (And.intro bm (And.intro bx hk)))
            clear bp bm bx hk hin
            go_wp2_with fail
            go_loopg [57] l.length (fun g s wr => ∃ (j : Nat) (p' m' : Int), s = .int .i64 j ∧ j + g = l.length ∧ 0 ≤ p' ∧ p' ≤ 4096 ∧ 0 ≤ m' ∧ m' ≤ (deep + 1) * 1125899906842624 ∧ Blk wr pb 3 #[.int .i64 p'] ∧ Blk wr mb 3 #[.int .i64 m'] ∧ Blk wr w.heap.size 29 #[Value.int .i64 f0, .int .i64 f1, .int .i64 f2, .string f3, .int .i64 f4, .int .i64 f5, .int .u64 f6, .string f7, .slice f8 f9 f10, .slice f11 f12 f13, .slice A l.length c] ∧ Kept [pb, mb] w wr ∧ Hid (r = E.lookL f0 (l.drop j) (deep + 1) p' m'))
            case atStart => exact ⟨0, p + 1, m + own, rfl, by omega, by omega, by omega, by omega, by omega, HW.out.1, HW.out.2.1, HW.out.2.2.1, HW.out.2.2.2, Hq⟩
            case round =>
              obtain ⟨j, p', m', rfl, hj, hp0', hp1', hm0', hm1', bp, bm, bx, hk, hinv⟩ := hrel
              by_cases hlt : j < l.length
              · obtain ⟨x', ex⟩ : ∃ x', l[j]? = some x' := ⟨_, List.getElem?_eq_getElem hlt⟩
                obtain ⟨⟨ad, rfl, h1, hadB⟩, ha', hl1, hx⟩ := HA.out j x' ex
                have hbelB : Below B w wr := hk.below (by omega) (by simp; omega)
                obtain ⟨p0, p1, p2, p3, p4, p5, p6, p7, p8, p9, p10⟩ := (h1.below' (B := B) (by rw [block_of_add]; exact hadB) hbelB).eleven
                have ha1 := ha'.below' hbelB hl1
                have hst := Lib.hid (drop_of_get ex)
                clear e0 e10 HW
                have e0 := fun o => (bx.alloc o).cell 0
                simp at e0
                have hz3 := bx.lt
                have Hw := Lib.hid (And.intro bp (And.intro bm (And.intro bx hk)))
                have Ha1 := Lib.hid (And.intro ha1 (And.intro hl1 hx))
                clear h1 ha' hadB ex hbelB bp bm bx hk ha1 hl1 hx HA Ha
                have hun := hinv.out
                rw [hst.out, E.lookL] at hun
                have hal := Lib.hid ((Below.refl wr.heap.size wr).alloc (Nat.le_refl _) (.cells #[Value.int .i64 x'.k, .int .i64 x'.id, .int .i64 x'.code, .string x'.t, .int .i64 x'.body.k, .int .i64 x'.body.i, .int .u64 x'.body.b, .string x'.body.t, .slice x'.body.A x'.body.l.length x'.body.c, .slice x'.cA x'.codes.length x'.cc, .slice x'.A x'.l.length x'.c] 29))
                by_cases h4 : f0 ≠ 4 ∧ x'.k = 0
                · rw [if_pos h4] at hun
                  subst hun
                  have h41 : (f0 != 4) = true := by simpa using h4.1
                  have h42 : (x'.k == 0) = true := by simpa using h4.2
                  clear h4 ih
                  go_wp2_with fail
                  go_ret
                  exact ⟨rfl, Hw.out.1.alloc _, Hw.out.2.1.alloc _, Hw.out.2.2.2.alloc _⟩
                · rw [if_neg h4] at hun
                  have Hun := Lib.hid hun
                  have h40 : f0 = 4 ∨ (¬ f0 = 4 ∧ ¬ x'.k = 0) := by omega
                  have IH := Lib.hid (fun W hin hp hm => ih x' (deep + 1) p' m' B pb mb W Ha1.out.2.2 hin Ha1.out.2.1 hpb hmb hne hp hm (by omega) (by omega) hp0' hp1' hm0' hm1')
                  have hlb := E.look_bd x' (deep + 1) p' m' hp1' hm0'
                  have IH1 := Lib.hid (IH.out _ (Ha1.out.1.below hal.out) (Hw.out.1.alloc _) (Hw.out.2.1.alloc _))
                  clear hun h4 ih IH
                  have h41 : (f0 != 4) = false ∨ (f0 != 4) = true ∧ (x'.k == 0) = false := by
                    rcases h40 with h | ⟨h, h'⟩
                    · left; simpa using h
                    · right; exact ⟨by simpa using h, by simpa using h'⟩
                  clear h40
                  rcases h41 with h41 | ⟨h41, h42⟩
                  all_goals
                    go_wp2_with fail
                    refine IH1.out.mono ?_
                    rintro e w3 ⟨rfl, b1, b2, b3⟩
                    have hk' := Lib.hid (Hw.out.2.2.2.trans ((Kept.of_below hal.out _).trans b3))
                    have bx' := Lib.hid ((Hw.out.2.2.1.alloc (.cells #[Value.int .i64 x'.k, .int .i64 x'.id, .int .i64 x'.code, .string x'.t, .int .i64 x'.body.k, .int .i64 x'.body.i, .int .u64 x'.body.b, .string x'.body.t, .slice x'.body.A x'.body.l.length x'.body.c, .slice x'.cA x'.codes.length x'.cc, .slice x'.A x'.l.length x'.c] 29)).kept b3 (by simp; omega))
                    have hun := Hun.out
                    generalize x'.look (deep + 1) p' m' = y at *
                    obtain ⟨y1, y2, y3⟩ := y
                    simp only at hun hlb b1 b2
                    have Hy := Lib.hid (And.intro b1 b2)
                    clear b1 b2 b3 hal IH1 e0
                    cases y1
                    · rw [if_neg (by simp)] at hun
                      subst hun
                      go_wp2_with fail
                      go_ret
                      exact ⟨rfl, Hy.out.1, Hy.out.2, hk'.out⟩
                    · rw [if_pos rfl] at hun
                      clear Hun
                      have Hun := Lib.hid hun
                      have hb5 := hlb rfl
                      clear hun hlb
                      go_wp2_with fail
                      go_roundg (gk - 1)
                      case measure => omega
                      case rel => exact ⟨j + 1, y2, y3, by go_num, by omega, by omega, by omega, by omega, by omega, Hy.out.1, Hy.out.2, bx'.out, hk'.out, Hun⟩
              · have c2 := bm.cell 0
                simp at c2
                have Hw := Lib.hid (And.intro bp (And.intro bm hk))
                clear ih HA HW bp bm hk bx Ha e0 e10
                go_wp2_with fail
                go_ret
                have e := hinv.out
                rw [List.drop_eq_nil_of_le (by omega), E.lookL] at e
                subst e
                exact ⟨rfl, Hw.out⟩
end Go.Proofs.YtbhmeapnmpgggaaGreatDoor
