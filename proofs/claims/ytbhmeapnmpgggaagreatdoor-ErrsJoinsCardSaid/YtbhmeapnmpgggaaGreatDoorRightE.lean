/- conduitref35.right: the walk. Condition: the tree lies in the world. -/
import Derived.Test.YtbhmeapnmpgggaaGreatDoorCutR
import Derived.Test.YtbhmeapnmpgggaaGreatDoorValid
import Derived.Test.YtbhmeapnmpgggaaGreatDoorSame1
namespace Go.Proofs.YtbhmeapnmpgggaaGreatDoor
open Go.RowKit

set_option maxHeartbeats 4000000 in
set_option maxRecDepth 100000 in
theorem rightE_any (n : Nat) : ∀ (d : E) (w : World), d.size ≤ n → d.In w →
    Calls Tryz.prog 43 #[d.v] w fun e w' => e = .returned (.bool d.right) ∧ Below w.heap.size w w' := by
  induction n with
  | zero => intro d w h; rw [E.size_eq] at h; omega
  | succ n ih =>
    intro d w hn ha
    have har := ha.rng
    obtain ⟨_, _, _, _, hr5, hr6, _, hr1, hr2, _⟩ := har
    have hV := Lib.hid (fun w (h : d.In w) => valid1_any d.body w h.bod)
    have hS := Lib.hid (fun w (h : d.In w) => same1_any d.body.size d.body D.zero w (Nat.le_refl _) h.bod (D.zero_in w))
    have hsn : E.sizeL d.l ≤ n := by rw [E.size_eq] at hn; omega
    have HA := Lib.hid (show ∀ q x, d.l[q]? = some x → ((∃ ad, d.A = some ad ∧ At w (ad.add (q * 11)) x.cs) ∧ x.In w) ∧ x.size ≤ n from fun q x hq => ⟨ha.at_ hq, Nat.le_trans (E.sizeL_le hq) hsn⟩)
    have Ha := Lib.hid ha
    clear ha hn hsn
    have hq : d.right = ((decide (E.okK d.k) && decide (E.okR (E.fId d.k) (E.fCode d.k) (E.fText d.k) (E.fCodes d.k) d.id d.code d.t d.codes.length) && decide (E.okL d.k d.code (E.fLeast d.k) (E.fMost d.k) d.l.length) && if E.fBody d.k then d.body.valid1 else d.body.same D.zero) && E.rightL d.k d.l) := by
      rw [← D.valid_eq]; cases d; rw [E.right]; rfl
    simp only [E.v, E.cs, D.v, D.cs] at hV hS ⊢
    generalize d.body.valid1 = v, d.body.same D.zero = z, d.right = res at *
    generalize d.k = f0, d.id = f1, d.code = f2, d.t = f3, d.body.k = f4, d.body.i = f5, d.body.b = f6, d.body.t = f7, d.body.A = f8, d.body.l.length = f9, d.body.c = f10, d.cA = f11, d.codes.length = f12, d.cc = f13, d.A = A, d.c = c at *
    generalize d.l = l at *
    have Hq := Lib.hid hq
    clear hq
    have hal := (Below.refl w.heap.size w).alloc (Nat.le_refl _) (.cells #[Value.int .i64 f0, .int .i64 f1, .int .i64 f2, .string f3, .int .i64 f4, .int .i64 f5, .int .u64 f6, .string f7, .slice f8 f9 f10, .slice f11 f12 f13, .slice A l.length c] 29)
    have bx := Blk.new w 29 #[Value.int .i64 f0, .int .i64 f1, .int .i64 f2, .string f3, .int .i64 f4, .int .i64 f5, .int .u64 f6, .string f7, .slice f8 f9 f10, .slice f11 f12 f13, .slice A l.length c]
    have hin := Ha.out.below hal
    go_enter Tryz.func43, Tryz.ntmps43
    go_upto_block 0 with fail
    generalize w.alloc (.cells #[Value.int .i64 f0, .int .i64 f1, .int .i64 f2, .string f3, .int .i64 f4, .int .i64 f5, .int .u64 f6, .string f7, .slice f8 f9 f10, .slice f11 f12 f13, .slice A l.length c] 29) = W at *
    have e0 := bx.cell 0
    have e1 := bx.cell 1
    have e2 := bx.cell 2
    have e3 := bx.cell 3
    have e4 := bx.cell 4
    have e5 := bx.cell 5
    have e6 := bx.cell 6
    have e7 := bx.cell 7
    have e8 := bx.cell 8
    have e9 := bx.cell 9
    have e10 := bx.cell 10
    simp at e0 e1 e2 e3 e4 e5 e6 e7 e8 e9 e10
    have hz := bx.lt
    have HW := Lib.hid (And.intro hal (And.intro bx hin))
    clear hal bx hin Ha
    go_cut [3, 4, 5, 6, 7, 8, 9] (fun s3 s4 s5 s6 s7 s8 s9 wx => s3 = .bool (E.fId f0) ∧ s4 = .bool (E.fCode f0) ∧ s5 = .bool (E.fText f0) ∧ s6 = .bool (E.fBody f0) ∧ s7 = .bool (E.fCodes f0) ∧ s8 = .int .i64 (E.fLeast f0) ∧ s9 = .int .i64 (E.fMost f0) ∧ W = wx ∧ Hid (E.okK f0 ∧ (f0 = 10 → 1 ≤ f2 ∧ f2 ≤ 3)))
    case first =>
      clear ih HA hV hS
      go_wp2_with fail
      all_goals first
        | (go_ret
           refine ⟨?_, HW.out.1⟩
           have e : res = false := by
             cases hres : res
             · rfl
             · exfalso
               have h := Hq.out
               rw [hres] at h
               have h := h.symm
               simp only [Bool.and_eq_true, decide_eq_true_eq] at h
               have h1 := h.1.1.1.1
               have h2 := h.1.1.2.1
               unfold E.okK at h1
               simp only [beq_eq_false_iff_ne, beq_iff_eq, ne_eq] at *
               omega
           rw [e]; rfl)
        | (go_meet; case rel => first
            | (have e : f0 = 0 := eq_of_beq (by assumption); subst e; exact ⟨rfl, rfl, rfl, rfl, rfl, rfl, rfl, rfl, by unfold Hid E.okK; exact ⟨⟨by decide, by decide⟩, fun h => absurd h (by decide)⟩⟩)
            | (have e : f0 = 1 := eq_of_beq (by assumption); subst e; exact ⟨rfl, rfl, rfl, rfl, rfl, rfl, rfl, rfl, by unfold Hid E.okK; exact ⟨⟨by decide, by decide⟩, fun h => absurd h (by decide)⟩⟩)
            | (have e : f0 = 2 := eq_of_beq (by assumption); subst e; exact ⟨rfl, rfl, rfl, rfl, rfl, rfl, rfl, rfl, by unfold Hid E.okK; exact ⟨⟨by decide, by decide⟩, fun h => absurd h (by decide)⟩⟩)
            | (have e : f0 = 3 := eq_of_beq (by assumption); subst e; exact ⟨rfl, rfl, rfl, rfl, rfl, rfl, rfl, rfl, by unfold Hid E.okK; exact ⟨⟨by decide, by decide⟩, fun h => absurd h (by decide)⟩⟩)
            | (have e : f0 = 4 := eq_of_beq (by assumption); subst e; exact ⟨rfl, rfl, rfl, rfl, rfl, rfl, rfl, rfl, by unfold Hid E.okK; exact ⟨⟨by decide, by decide⟩, fun h => absurd h (by decide)⟩⟩)
            | (have e : f0 = 5 := eq_of_beq (by assumption); subst e; exact ⟨rfl, rfl, rfl, rfl, rfl, rfl, rfl, rfl, by unfold Hid E.okK; exact ⟨⟨by decide, by decide⟩, fun h => absurd h (by decide)⟩⟩)
            | (have e : f0 = 6 := eq_of_beq (by assumption); subst e; exact ⟨rfl, rfl, rfl, rfl, rfl, rfl, rfl, rfl, by unfold Hid E.okK; exact ⟨⟨by decide, by decide⟩, fun h => absurd h (by decide)⟩⟩)
            | (have e : f0 = 7 := eq_of_beq (by assumption); subst e; exact ⟨rfl, rfl, rfl, rfl, rfl, rfl, rfl, rfl, by unfold Hid E.okK; exact ⟨⟨by decide, by decide⟩, fun h => absurd h (by decide)⟩⟩)
            | (have e : f0 = 8 := eq_of_beq (by assumption); subst e; exact ⟨rfl, rfl, rfl, rfl, rfl, rfl, rfl, rfl, by unfold Hid E.okK; exact ⟨⟨by decide, by decide⟩, fun h => absurd h (by decide)⟩⟩)
            | (have e : f0 = 9 := eq_of_beq (by assumption); subst e; exact ⟨rfl, rfl, rfl, rfl, rfl, rfl, rfl, rfl, by unfold Hid E.okK; exact ⟨⟨by decide, by decide⟩, fun h => absurd h (by decide)⟩⟩)
            | (have e : f0 = 10 := eq_of_beq (by assumption); subst e; refine ⟨rfl, rfl, rfl, rfl, rfl, rfl, rfl, rfl, ?_⟩; unfold Hid E.okK; refine ⟨⟨by decide, by decide⟩, fun _ => ?_⟩; omega))
    case rest =>
      obtain ⟨rfl, rfl, rfl, rfl, rfl, rfl, rfl, rfl, hk⟩ := hcut
      have hlo : 0 ≤ E.fLeast f0 ∧ E.fLeast f0 ≤ 1 := by unfold E.fLeast; split <;> omega
      have hhi : 0 ≤ E.fMost f0 ∧ E.fMost f0 ≤ 4096 := by unfold E.fMost; split; omega; split; omega; split <;> omega
      generalize E.fId f0 = p, E.fCode f0 = q, E.fText f0 = r', E.fCodes f0 = s, E.fLeast f0 = lo, E.fMost f0 = hi, E.fBody f0 = b at *
      go_upto_region 26 with fail
      apply wp_region_lit
      refine wpList_cut 5 42 46 (BoolAt 46 W ((p = true ↔ 1 ≤ f1))) ?_ ?_
      · simp only [List.take_succ_cons, List.take_zero]
        clear ih HA hV hS
        cases p
        all_goals go_wp2_with fail
        all_goals
          (try (rename f1 = 0 => e; subst e))
          (try (rename f2 = 0 => e; subst e))
          (try (rename f12 = 0 => e; subst e))
          refine CutR.intro rfl ⟨_, rfl, rfl, ?_⟩
          simp [*]
          try omega
      simp only [List.drop_succ_cons, List.drop_zero]
      rintro u _ ⟨x, hu, rfl, hx'⟩
      obtain ⟨C1, hC1⟩ : ∃ C : Prop, C = ((p = true ↔ 1 ≤ f1)) := ⟨_, rfl⟩
      rw [← hC1] at hx'
      have HC1 := Lib.hid hC1
      have hx := Lib.hid hx'
      clear hx' hC1
      simp only [fg, Nat.reduceAdd, Nat.reduceLeDiff, and_true, and_false, and_self, if_true, if_false]
      rw [hu]
      clear hu
      refine wpList_cut 9 47 55 (BoolAt 55 W (C1 ∧ (p = true ∨ f1 = 0))) ?_ ?_
      · simp only [List.take_succ_cons, List.take_zero]
        clear ih HA hV hS
        cases x <;> cases p
        all_goals go_wp2_with fail
        all_goals
          (try (rename f1 = 0 => e; subst e))
          (try (rename f2 = 0 => e; subst e))
          (try (rename f12 = 0 => e; subst e))
          refine CutR.intro rfl ⟨_, rfl, rfl, ?_⟩
          have h := hx.out
          clear hx
          simp at h
          simp [*]
          try omega
      simp only [List.drop_succ_cons, List.drop_zero]
      clear hx
      rintro u _ ⟨x, hu, rfl, hx'⟩
      obtain ⟨C2, hC2⟩ : ∃ C : Prop, C = (C1 ∧ (p = true ∨ f1 = 0)) := ⟨_, rfl⟩
      rw [← hC2] at hx'
      have HC2 := Lib.hid hC2
      have hx := Lib.hid hx'
      clear hx' hC2
      simp only [fg, Nat.reduceAdd, Nat.reduceLeDiff, and_true, and_false, and_self, if_true, if_false]
      rw [hu]
      clear hu
      refine wpList_cut 9 56 64 (BoolAt 64 W (C2 ∧ (q = true ∨ f2 = 0))) ?_ ?_
      · simp only [List.take_succ_cons, List.take_zero]
        clear ih HA hV hS
        cases x <;> cases q
        all_goals go_wp2_with fail
        all_goals
          (try (rename f1 = 0 => e; subst e))
          (try (rename f2 = 0 => e; subst e))
          (try (rename f12 = 0 => e; subst e))
          refine CutR.intro rfl ⟨_, rfl, rfl, ?_⟩
          have h := hx.out
          clear hx
          simp at h
          simp [*]
          try omega
      simp only [List.drop_succ_cons, List.drop_zero]
      clear hx
      rintro u _ ⟨x, hu, rfl, hx'⟩
      obtain ⟨C3, hC3⟩ : ∃ C : Prop, C = (C2 ∧ (q = true ∨ f2 = 0)) := ⟨_, rfl⟩
      rw [← hC3] at hx'
      have HC3 := Lib.hid hC3
      have hx := Lib.hid hx'
      clear hx' hC3
      simp only [fg, Nat.reduceAdd, Nat.reduceLeDiff, and_true, and_false, and_self, if_true, if_false]
      rw [hu]
      clear hu
      refine wpList_cut 9 65 73 (BoolAt 73 W (C3 ∧ (r' = true ∨ f3.toList = []))) ?_ ?_
      · simp only [List.take_succ_cons, List.take_zero]
        clear ih HA hV hS
        cases x <;> cases r'
        all_goals go_wp2_with fail
        all_goals
          (try (rename f1 = 0 => e; subst e))
          (try (rename f2 = 0 => e; subst e))
          (try (rename f12 = 0 => e; subst e))
          refine CutR.intro rfl ⟨_, rfl, rfl, ?_⟩
          have h := hx.out
          clear hx
          simp at h
          simp [*]
          try omega
      simp only [List.drop_succ_cons, List.drop_zero]
      clear hx
      rintro u _ ⟨x, hu, rfl, hx'⟩
      obtain ⟨C4, hC4⟩ : ∃ C : Prop, C = (C3 ∧ (r' = true ∨ f3.toList = [])) := ⟨_, rfl⟩
      rw [← hC4] at hx'
      have HC4 := Lib.hid hC4
      have hx := Lib.hid hx'
      clear hx' hC4
      simp only [fg, Nat.reduceAdd, Nat.reduceLeDiff, and_true, and_false, and_self, if_true, if_false]
      rw [hu]
      clear hu
      refine wpList_cut 6 74 79 (BoolAt 79 W (C4 ∧ ((f3.size : Int) ≤ 65535))) ?_ ?_
      · simp only [List.take_succ_cons, List.take_zero]
        clear ih HA hV hS
        cases x
        all_goals go_wp2_with fail
        all_goals
          (try (rename f1 = 0 => e; subst e))
          (try (rename f2 = 0 => e; subst e))
          (try (rename f12 = 0 => e; subst e))
          refine CutR.intro rfl ⟨_, rfl, rfl, ?_⟩
          have h := hx.out
          clear hx
          simp at h
          simp [*]
          try omega
      simp only [List.drop_succ_cons, List.drop_zero]
      clear hx
      rintro u _ ⟨x, hu, rfl, hx'⟩
      obtain ⟨C5, hC5⟩ : ∃ C : Prop, C = (C4 ∧ ((f3.size : Int) ≤ 65535)) := ⟨_, rfl⟩
      rw [← hC5] at hx'
      have HC5 := Lib.hid hC5
      have hx := Lib.hid hx'
      clear hx' hC5
      simp only [fg, Nat.reduceAdd, Nat.reduceLeDiff, and_true, and_false, and_self, if_true, if_false]
      rw [hu]
      clear hu
      refine wpList_cut 10 80 89 (BoolAt 89 W (C5 ∧ (s = true ∨ f12 = 0))) ?_ ?_
      · simp only [List.take_succ_cons, List.take_zero]
        clear ih HA hV hS
        cases x <;> cases s
        all_goals go_wp2_with fail
        all_goals
          (try (rename f1 = 0 => e; subst e))
          (try (rename f2 = 0 => e; subst e))
          (try (rename f12 = 0 => e; subst e))
          refine CutR.intro rfl ⟨_, rfl, rfl, ?_⟩
          have h := hx.out
          clear hx
          simp at h
          simp [*]
          try omega
      simp only [List.drop_succ_cons, List.drop_zero]
      clear hx
      rintro u _ ⟨x, hu, rfl, hx'⟩
      obtain ⟨C6, hC6⟩ : ∃ C : Prop, C = (C5 ∧ (s = true ∨ f12 = 0)) := ⟨_, rfl⟩
      rw [← hC6] at hx'
      have HC6 := Lib.hid hC6
      have hx := Lib.hid hx'
      clear hx' hC6
      simp only [fg, Nat.reduceAdd, Nat.reduceLeDiff, and_true, and_false, and_self, if_true, if_false]
      rw [hu]
      clear hu
      refine wpList_cut 7 90 96 (BoolAt 96 W (C6 ∧ lo ≤ (l.length : Int))) ?_ ?_
      · simp only [List.take_succ_cons, List.take_zero]
        clear ih HA hV hS
        cases x
        all_goals go_wp2_with fail
        all_goals
          (try (rename f1 = 0 => e; subst e))
          (try (rename f2 = 0 => e; subst e))
          (try (rename f12 = 0 => e; subst e))
          refine CutR.intro rfl ⟨_, rfl, rfl, ?_⟩
          have h := hx.out
          clear hx
          simp at h
          simp [*]
          try omega
      simp only [List.drop_succ_cons, List.drop_zero]
      clear hx
      rintro u _ ⟨x, hu, rfl, hx'⟩
      obtain ⟨C7, hC7⟩ : ∃ C : Prop, C = (C6 ∧ lo ≤ (l.length : Int)) := ⟨_, rfl⟩
      rw [← hC7] at hx'
      have HC7 := Lib.hid hC7
      have hx := Lib.hid hx'
      clear hx' hC7
      simp only [fg, Nat.reduceAdd, Nat.reduceLeDiff, and_true, and_false, and_self, if_true, if_false]
      rw [hu]
      clear hu
      refine wpList_cut 7 97 103 (BoolAt 103 W (C7 ∧ (l.length : Int) ≤ hi)) ?_ ?_
      · simp only [List.take_succ_cons, List.take_zero]
        clear ih HA hV hS
        cases x
        all_goals go_wp2_with fail
        all_goals
          (try (rename f1 = 0 => e; subst e))
          (try (rename f2 = 0 => e; subst e))
          (try (rename f12 = 0 => e; subst e))
          refine CutR.intro rfl ⟨_, rfl, rfl, ?_⟩
          have h := hx.out
          clear hx
          simp at h
          simp [*]
          try omega
      simp only [List.drop_succ_cons, List.drop_zero]
      clear hx
      rintro u _ ⟨x, hu, rfl, hx'⟩
      obtain ⟨C8, hC8⟩ : ∃ C : Prop, C = (C7 ∧ (l.length : Int) ≤ hi) := ⟨_, rfl⟩
      rw [← hC8] at hx'
      have HC8 := Lib.hid hC8
      have hx := Lib.hid hx'
      clear hx' hC8
      simp only [fg, Nat.reduceAdd, Nat.reduceLeDiff, and_true, and_false, and_self, if_true, if_false]
      rw [hu]
      clear hu
      apply wpList_nil
      have hR : C8 ↔ E.okR p q r' s f1 f2 f3 f12 ∧ lo ≤ (l.length : Int) ∧ (l.length : Int) ≤ hi := by
        rw [HC8.out, HC7.out, HC6.out, HC5.out, HC4.out, HC3.out, HC2.out, HC1.out]
        unfold E.okR
        constructor
        · rintro ⟨⟨⟨⟨⟨⟨⟨a, b⟩, c⟩, d⟩, e⟩, f⟩, g⟩, h⟩; exact ⟨⟨a, b, c, d, e, f⟩, g, h⟩
        · rintro ⟨⟨a, b, c, d, e, f⟩, g, h⟩; exact ⟨⟨⟨⟨⟨⟨⟨a, b⟩, c⟩, d⟩, e⟩, f⟩, g⟩, h⟩
      have HR := Lib.hid hR
      clear hR HC1 HC2 HC3 HC4 HC5 HC6 HC7 HC8
      cases x
      · have hx1 := HR.out.1 (Classical.not_not.1 (fun h => by simpa using hx.out.2 h))
        have Hq1 := Lib.hid (show res = ((if b = true then v else z) && E.rightL f0 l) by
          have h1 : decide (E.okK f0) = true := decide_eq_true hk.out.1
          have h2 : decide (E.okR p q r' s f1 f2 f3 f12) = true := decide_eq_true hx1.1
          have h3 : decide (E.okL f0 f2 lo hi l.length) = true := decide_eq_true ⟨hk.out.2, hx1.2.1, hx1.2.2⟩
          rw [Hq.out, h1, h2, h3]; simp)
        clear hx1 hx HR hk Hq
        go_upto_region 28 with fail
        go_cut [121] (fun s121 wx => ∃ x : Bool, s121 = .bool x ∧ Below w.heap.size w wx ∧ Blk wx w.heap.size 29 #[Value.int .i64 f0, .int .i64 f1, .int .i64 f2, .string f3, .int .i64 f4, .int .i64 f5, .int .u64 f6, .string f7, .slice f8 f9 f10, .slice f11 f12 f13, .slice A l.length c] ∧ Hid (x = !(if b = true then v else z)))
        case first =>
          clear ih HA Hq1
          cases b
          · clear hV
            go_wp2_with fail
            refine (hS.out _ HW.out.2.2).mono ?_
            rintro e w2 ⟨rfl, hbw⟩
            have Hb := Lib.hid (And.intro (HW.out.1.trans (hbw.mono HW.out.1.size)) (HW.out.2.1.below hbw HW.out.2.1.lt))
            clear hbw e0 e1 e2 e3 e4 e5 e6 e7 e8 e9 e10
            cases z
            all_goals
              go_wp2_with fail
              go_meet
              case rel => exact ⟨_, rfl, Hb.out.1, Hb.out.2, by simp [Hid]⟩
          · clear hS
            go_wp2_with fail
            refine (hV.out _ HW.out.2.2).mono ?_
            rintro e w2 ⟨rfl, hbw⟩
            have Hb := Lib.hid (And.intro (HW.out.1.trans (hbw.mono HW.out.1.size)) (HW.out.2.1.below hbw HW.out.2.1.lt))
            clear hbw e0 e1 e2 e3 e4 e5 e6 e7 e8 e9 e10
            cases v
            all_goals
              go_wp2_with fail
              go_meet
              case rel => exact ⟨_, rfl, Hb.out.1, Hb.out.2, by simp [Hid]⟩
        case rest =>
          clear e0 e1 e2 e3 e4 e5 e6 e7 e8 e9 e10 HW hV hS
          obtain ⟨x, rfl, hbl, bx, hx⟩ := hcut
          have e0 := bx.cell 0
          have e10 := bx.cell 10
          simp at e0 e10
          have HW := Lib.hid (And.intro hbl bx)
          clear hbl bx
          cases x
          · have hq : res = E.rightL f0 l := by
              have h1 : (if b = true then v else z) = true := by have := hx.out; simpa using this
              rw [Hq1.out, h1, Bool.true_and]
            have Hq := Lib.hid hq
            clear hq Hq1 hx
            go_wp2_with fail
            go_loopg [125] l.length (fun g s wr => ∃ j : Nat, s = .int .i64 j ∧ j + g = l.length ∧ Below w.heap.size w wr ∧ Blk wr w.heap.size 29 #[Value.int .i64 f0, .int .i64 f1, .int .i64 f2, .string f3, .int .i64 f4, .int .i64 f5, .int .u64 f6, .string f7, .slice f8 f9 f10, .slice f11 f12 f13, .slice A l.length c] ∧ Hid (res = E.rightL f0 (l.drop j)))
            case atStart => exact ⟨0, rfl, by omega, HW.out.1, HW.out.2, Hq⟩
            case round =>
              clear e0 e10
              obtain ⟨j, rfl, hj, hbel, bx, hinv⟩ := hrel
              have e0 := bx.cell 0
              have e10 := bx.cell 10
              simp at e0 e10
              by_cases hlt : j < l.length
              · obtain ⟨x', ex⟩ : ∃ x', l[j]? = some x' := ⟨_, List.getElem?_eq_getElem hlt⟩
                obtain ⟨⟨⟨ad, rfl, h1⟩, ha'⟩, hx⟩ := HA.out j x' ex
                obtain ⟨p0, p1, p2, p3, p4, p5, p6, p7, p8, p9, p10⟩ := (h1.below hbel).eleven
                have ha1 := ha'.below hbel
                have hst := hinv.out
                rw [drop_of_get ex, E.rightL] at hst
                have Hst := Lib.hid hst
                have Hb := Lib.hid (And.intro hbel bx)
                have IH := Lib.hid (fun W hin => ih x' W hx hin)
                clear h1 ha' HA ex hbel bx HW hst ih hx
                by_cases h4 : f0 ≠ 4 ∧ x'.k = 0
                · have h41 : (f0 != 4) = true := by simpa using h4.1
                  have h42 : (x'.k == 0) = true := by simpa using h4.2
                  have Hr := Lib.hid (show res = false by rw [Hst.out]; simp [h4.1, h4.2])
                  clear h4
                  go_wp2_with fail
                  go_ret
                  exact ⟨by rw [Hr.out] <;> rfl, Hb.out.1⟩
                · have h41 : (f0 != 4) = false ∨ (f0 != 4) = true ∧ (x'.k == 0) = false := by
                    by_cases h : f0 = 4
                    · left; simpa using h
                    · right; exact ⟨by simpa using h, by simp only [beq_eq_false_iff_ne]; exact fun h' => h4 ⟨h, h'⟩⟩
                  have Hr := Lib.hid (show res = (x'.right && E.rightL f0 (l.drop (j + 1))) by
                    rw [Hst.out]
                    have : (f0 == 4 || x'.k != 0) = true := by
                      by_cases h : f0 = 4
                      · simp [h]
                      · have : x'.k ≠ 0 := fun h' => h4 ⟨h, h'⟩
                        simp [this]
                    rw [this, Bool.true_and])
                  clear h4 Hst
                  rcases h41 with h41 | ⟨h41, h42⟩
                  all_goals
                    go_wp2_with fail
                    refine (IH.out _ ha1).mono ?_
                    rintro e w3 ⟨rfl, hbw⟩
                    have Hb2 := Lib.hid (And.intro (Hb.out.1.trans (hbw.mono Hb.out.1.size)) (Hb.out.2.below hbw Hb.out.2.lt))
                    clear hbw
                    cases hs : x'.right
                    · go_wp2_with fail
                      go_ret
                      exact ⟨by rw [Hr.out, hs] <;> rfl, Hb2.out.1⟩
                    · go_wp2_with fail
                      go_roundg (gk - 1)
                      case measure => omega
                      case rel => exact ⟨j + 1, by go_num, by omega, Hb2.out.1, Hb2.out.2, by unfold Hid; rw [Hr.out, hs, Bool.true_and]⟩
              · have Hb := Lib.hid hbel
                clear hbel bx HA HW ih
                go_wp2_with fail
                go_ret
                refine ⟨?_, Hb.out⟩
                rw [hinv.out, List.drop_eq_nil_of_le (by omega)] <;> rfl
          · have hq : res = false := by
              have h1 : (if b = true then v else z) = false := by have := hx.out; simpa using this
              rw [Hq1.out, h1, Bool.false_and]
            clear ih HA Hq1 hx e0 e10
            go_wp2_with fail
            go_ret
            exact ⟨by rw [hq] <;> rfl, HW.out.1⟩
      · have hx1 := Lib.hid (hx.out.1 rfl)
        clear hx hV hS ih HA
        go_wp2_with fail
        go_ret
        refine ⟨?_, HW.out.1⟩
        have e : res = false := by
          cases hres : res
          · rfl
          · exfalso
            have h := Hq.out
            rw [hres] at h
            have h := h.symm
            simp only [Bool.and_eq_true, decide_eq_true_eq] at h
            exact hx1.out (HR.out.2 ⟨h.1.1.1.2, h.1.1.2.2.1, h.1.1.2.2.2⟩)
        rw [e] <;> rfl
end Go.Proofs.YtbhmeapnmpgggaaGreatDoor
