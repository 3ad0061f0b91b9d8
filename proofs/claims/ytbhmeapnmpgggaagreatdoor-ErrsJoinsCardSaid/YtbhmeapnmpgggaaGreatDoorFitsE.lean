/- errs.fits: the walk. Condition: the error lies in the world. -/
import Derived.Test.YtbhmeapnmpgggaaGreatDoorCutR
import Derived.Test.YtbhmeapnmpgggaaGreatDoorValid
import Derived.Test.YtbhmeapnmpgggaaGreatDoorSame0
namespace Go.Proofs.YtbhmeapnmpgggaaGreatDoor
open Go.RowKit

set_option maxHeartbeats 4000000 in
set_option maxRecDepth 100000 in
theorem fitsE_any (d : E) (w : World) (ha : d.In w) :
    Calls Tryz.prog 95 #[d.v] w fun e w' => e = .returned (.bool d.fit) ∧ Below w.heap.size w w' := by
  have har := ha.rng
  obtain ⟨_, _, _, _, hr5, hr6, _, hr1, hr2, _⟩ := har
  have hF := Lib.hid (fun w => fields_any d.k w)
  have hV := Lib.hid (fun w (h : d.In w) => valid0_any d.body w h.bod)
  have hS := Lib.hid (fun w (h : d.In w) => same0_any d.body.size d.body D.zero w (Nat.le_refl _) h.bod (D.zero_in w))
  have Ha := Lib.hid ha
  clear ha
  have hq : d.fit = (decide (E.okK d.k) && decide (E.okR (E.fId d.k) (E.fCode d.k) (E.fText d.k) (E.fCodes d.k) d.id d.code d.t d.codes.length) && decide (E.okL d.k d.code (E.fLeast d.k) (E.fMost d.k) d.l.length) && if E.fBody d.k then d.body.valid0 else d.body.same D.zero) := rfl
  have hlo : 0 ≤ E.fLeast d.k ∧ E.fLeast d.k ≤ 1 := by unfold E.fLeast; split <;> omega
  have hhi : 0 ≤ E.fMost d.k ∧ E.fMost d.k ≤ 4096 := by unfold E.fMost; split; omega; split; omega; split <;> omega
  simp only [E.v, E.cs, D.v, D.cs, E.fieldsV] at hF hV hS ⊢
  generalize decide (E.okK d.k) = ok at *
  generalize E.fId d.k = p, E.fCode d.k = q, E.fText d.k = r, E.fCodes d.k = s, E.fLeast d.k = lo, E.fMost d.k = hi, E.fBody d.k = b, d.body.valid0 = v, d.body.same D.zero = z, d.fit = res at *
  generalize d.k = f0, d.id = f1, d.code = f2, d.t = f3, d.body.k = f4, d.body.i = f5, d.body.b = f6, d.body.t = f7, d.body.A = f8, d.body.l.length = f9, d.body.c = f10, d.cA = f11, d.codes.length = f12, d.cc = f13, d.A = A, d.l.length = ll, d.c = c at *
  have Hq := Lib.hid hq
  clear hq
  have hal := (Below.refl w.heap.size w).alloc (Nat.le_refl _) (.cells #[Value.int .i64 f0, .int .i64 f1, .int .i64 f2, .string f3, .int .i64 f4, .int .i64 f5, .int .u64 f6, .string f7, .slice f8 f9 f10, .slice f11 f12 f13, .slice A ll c] 29)
  have hb0 := Lib.hid hal
  have hx0 := Lib.hid (Blk.new w 29 #[Value.int .i64 f0, .int .i64 f1, .int .i64 f2, .string f3, .int .i64 f4, .int .i64 f5, .int .u64 f6, .string f7, .slice f8 f9 f10, .slice f11 f12 f13, .slice A ll c])
  have Ha0 := Lib.hid (Ha.out.below hal)
  clear hal Ha
  go_enter Tryz.func95, Tryz.ntmps95
  go_wp2_with fail
  refine (hF.out _).mono ?_
  rintro e w1 ⟨rfl, hbw⟩
  clear hF
  go_upto_region 2 with fail
  have hal := (Below.refl w1.heap.size w1).alloc (Nat.le_refl _) (.cells #[Value.bool p, .bool q, .bool r, .bool b, .bool s, .int .i64 lo, .int .i64 hi] 211)
  have hg := Blk.new w1 211 #[Value.bool p, .bool q, .bool r, .bool b, .bool s, .int .i64 lo, .int .i64 hi]
  have hx1 := (hx0.out.below hbw hx0.out.lt).alloc (.cells #[Value.bool p, .bool q, .bool r, .bool b, .bool s, .int .i64 lo, .int .i64 hi] 211)
  have hin := (Ha0.out.below hbw).below hal
  have hbb := hb0.out.trans ((hbw.trans (hal.mono hbw.size)).mono hb0.out.size)
  generalize w1.heap.size = g at *
  generalize w1.alloc (.cells #[Value.bool p, .bool q, .bool r, .bool b, .bool s, .int .i64 lo, .int .i64 hi] 211) = W at *
  have c0 := hx1.cell 0
  have c1 := hx1.cell 1
  have c2 := hx1.cell 2
  have c3 := hx1.cell 3
  have c4 := hx1.cell 4
  have c5 := hx1.cell 5
  have c6 := hx1.cell 6
  have c7 := hx1.cell 7
  have c8 := hx1.cell 8
  have c9 := hx1.cell 9
  have c10 := hx1.cell 10
  have d0 := hg.cell 0
  have d1 := hg.cell 1
  have d2 := hg.cell 2
  have d3 := hg.cell 3
  have d4 := hg.cell 4
  have d5 := hg.cell 5
  have d6 := hg.cell 6
  simp at c0 c1 c2 c3 c4 c5 c6 c7 c8 c9 c10 d0 d1 d2 d3 d4 d5 d6
  have HW := Lib.hid (And.intro hin (And.intro hbb (And.intro hx1.lt hg.lt)))
  clear hin hbb hx1 hg hx0 Ha0 hb0
  apply wp_region_lit
  refine wpList_cut 10 11 20 (BoolAt 20 W (ok = true ∧ (p = true ↔ 1 ≤ f1))) ?_ ?_
  · simp only [List.take_succ_cons, List.take_zero]
    clear hV hS HW
    cases ok <;> cases p
    all_goals go_wp2_with fail
    all_goals
      (try (rename f1 = 0 => e; subst e))
      (try (rename f2 = 0 => e; subst e))
      (try (rename f12 = 0 => e; subst e))
      refine CutR.intro rfl ⟨_, rfl, rfl, ?_⟩
      simp [*]
      try omega
  simp only [List.drop_succ_cons, List.drop_zero]
  rintro u _ ⟨x, hu, rfl, hx'⟩
  obtain ⟨C1, hC1⟩ : ∃ C : Prop, C = (ok = true ∧ (p = true ↔ 1 ≤ f1)) := ⟨_, rfl⟩
  rw [← hC1] at hx'
  have HC1 := Lib.hid hC1
  have hx := Lib.hid hx'
  clear hx' hC1
  simp only [fg, Nat.reduceAdd, Nat.reduceLeDiff, and_true, and_false, and_self, if_true, if_false]
  rw [hu]
  clear hu
  refine wpList_cut 10 21 30 (BoolAt 30 W (C1 ∧ (p = true ∨ f1 = 0))) ?_ ?_
  · simp only [List.take_succ_cons, List.take_zero]
    clear hV hS HW
    cases x <;> cases p
    all_goals go_wp2_with fail
    all_goals
      (try (rename f1 = 0 => e; subst e))
      (try (rename f2 = 0 => e; subst e))
      (try (rename f12 = 0 => e; subst e))
      refine CutR.intro rfl ⟨_, rfl, rfl, ?_⟩
      have h := hx.out
      clear hx
      simp at h
      simp [*]
      try omega
  simp only [List.drop_succ_cons, List.drop_zero]
  clear hx
  rintro u _ ⟨x, hu, rfl, hx'⟩
  obtain ⟨C2, hC2⟩ : ∃ C : Prop, C = (C1 ∧ (p = true ∨ f1 = 0)) := ⟨_, rfl⟩
  rw [← hC2] at hx'
  have HC2 := Lib.hid hC2
  have hx := Lib.hid hx'
  clear hx' hC2
  simp only [fg, Nat.reduceAdd, Nat.reduceLeDiff, and_true, and_false, and_self, if_true, if_false]
  rw [hu]
  clear hu
  refine wpList_cut 10 31 40 (BoolAt 40 W (C2 ∧ (q = true ∨ f2 = 0))) ?_ ?_
  · simp only [List.take_succ_cons, List.take_zero]
    clear hV hS HW
    cases x <;> cases q
    all_goals go_wp2_with fail
    all_goals
      (try (rename f1 = 0 => e; subst e))
      (try (rename f2 = 0 => e; subst e))
      (try (rename f12 = 0 => e; subst e))
      refine CutR.intro rfl ⟨_, rfl, rfl, ?_⟩
      have h := hx.out
      clear hx
      simp at h
      simp [*]
      try omega
  simp only [List.drop_succ_cons, List.drop_zero]
  clear hx
  rintro u _ ⟨x, hu, rfl, hx'⟩
  obtain ⟨C3, hC3⟩ : ∃ C : Prop, C = (C2 ∧ (q = true ∨ f2 = 0)) := ⟨_, rfl⟩
  rw [← hC3] at hx'
  have HC3 := Lib.hid hC3
  have hx := Lib.hid hx'
  clear hx' hC3
  simp only [fg, Nat.reduceAdd, Nat.reduceLeDiff, and_true, and_false, and_self, if_true, if_false]
  rw [hu]
  clear hu
  refine wpList_cut 10 41 50 (BoolAt 50 W (C3 ∧ (r = true ∨ f3.toList = []))) ?_ ?_
  · simp only [List.take_succ_cons, List.take_zero]
    clear hV hS HW
    cases x <;> cases r
    all_goals go_wp2_with fail
    all_goals
      (try (rename f1 = 0 => e; subst e))
      (try (rename f2 = 0 => e; subst e))
      (try (rename f12 = 0 => e; subst e))
      refine CutR.intro rfl ⟨_, rfl, rfl, ?_⟩
      have h := hx.out
      clear hx
      simp at h
      simp [*]
      try omega
  simp only [List.drop_succ_cons, List.drop_zero]
  clear hx
  rintro u _ ⟨x, hu, rfl, hx'⟩
  obtain ⟨C4, hC4⟩ : ∃ C : Prop, C = (C3 ∧ (r = true ∨ f3.toList = [])) := ⟨_, rfl⟩
  rw [← hC4] at hx'
  have HC4 := Lib.hid hC4
  have hx := Lib.hid hx'
  clear hx' hC4
  simp only [fg, Nat.reduceAdd, Nat.reduceLeDiff, and_true, and_false, and_self, if_true, if_false]
  rw [hu]
  clear hu
  refine wpList_cut 6 51 56 (BoolAt 56 W (C4 ∧ ((f3.size : Int) ≤ 65535))) ?_ ?_
  · simp only [List.take_succ_cons, List.take_zero]
    clear hV hS HW
    cases x
    all_goals go_wp2_with fail
    all_goals
      (try (rename f1 = 0 => e; subst e))
      (try (rename f2 = 0 => e; subst e))
      (try (rename f12 = 0 => e; subst e))
      refine CutR.intro rfl ⟨_, rfl, rfl, ?_⟩
      have h := hx.out
      clear hx
      simp at h
      simp [*]
      try omega
  simp only [List.drop_succ_cons, List.drop_zero]
  clear hx
  rintro u _ ⟨x, hu, rfl, hx'⟩
  obtain ⟨C5, hC5⟩ : ∃ C : Prop, C = (C4 ∧ ((f3.size : Int) ≤ 65535)) := ⟨_, rfl⟩
  rw [← hC5] at hx'
  have HC5 := Lib.hid hC5
  have hx := Lib.hid hx'
  clear hx' hC5
  simp only [fg, Nat.reduceAdd, Nat.reduceLeDiff, and_true, and_false, and_self, if_true, if_false]
  rw [hu]
  clear hu
  refine wpList_cut 11 57 67 (BoolAt 67 W (C5 ∧ (s = true ∨ f12 = 0))) ?_ ?_
  · simp only [List.take_succ_cons, List.take_zero]
    clear hV hS HW
    cases x <;> cases s
    all_goals go_wp2_with fail
    all_goals
      (try (rename f1 = 0 => e; subst e))
      (try (rename f2 = 0 => e; subst e))
      (try (rename f12 = 0 => e; subst e))
      refine CutR.intro rfl ⟨_, rfl, rfl, ?_⟩
      have h := hx.out
      clear hx
      simp at h
      simp [*]
      try omega
  simp only [List.drop_succ_cons, List.drop_zero]
  clear hx
  rintro u _ ⟨x, hu, rfl, hx'⟩
  obtain ⟨C6, hC6⟩ : ∃ C : Prop, C = (C5 ∧ (s = true ∨ f12 = 0)) := ⟨_, rfl⟩
  rw [← hC6] at hx'
  have HC6 := Lib.hid hC6
  have hx := Lib.hid hx'
  clear hx' hC6
  simp only [fg, Nat.reduceAdd, Nat.reduceLeDiff, and_true, and_false, and_self, if_true, if_false]
  rw [hu]
  clear hu
  apply wpList_nil
  have hR : C6 ↔ ok = true ∧ E.okR p q r s f1 f2 f3 f12 := by
    rw [HC6.out, HC5.out, HC4.out, HC3.out, HC2.out, HC1.out]
    unfold E.okR
    constructor
    · rintro ⟨⟨⟨⟨⟨⟨a, b⟩, c⟩, d⟩, e⟩, f⟩, g⟩; exact ⟨a, b, c, d, e, f, g⟩
    · rintro ⟨a, b, c, d, e, f, g⟩; exact ⟨⟨⟨⟨⟨⟨a, b⟩, c⟩, d⟩, e⟩, f⟩, g⟩
  have HR := Lib.hid hR
  clear hR HC1 HC2 HC3 HC4 HC5 HC6
  cases x
  · have hx1 := HR.out.1 (Classical.not_not.1 (fun h => by simpa using hx.out.2 h))
    have Hx1 := Lib.hid hx1
    clear hx1 hx HR
    go_upto_region 4 with fail
    apply wp_region_lit
    refine wpList_cut 13 68 80 (BoolAt 80 W ((f0 = 10 → 1 ≤ f2 ∧ f2 ≤ 3))) ?_ ?_
    · simp only [List.take_succ_cons, List.take_zero]
      clear hV hS HW
      go_wp2_with fail
      all_goals
        (try (rename f0 = 10 => e; subst e))
        refine CutR.intro rfl ⟨_, rfl, rfl, ?_⟩
        simp [*]
        try omega
    simp only [List.drop_succ_cons, List.drop_zero]
    rintro u _ ⟨x, hu, rfl, hx'⟩
    obtain ⟨C7, hC7⟩ : ∃ C : Prop, C = ((f0 = 10 → 1 ≤ f2 ∧ f2 ≤ 3)) := ⟨_, rfl⟩
    rw [← hC7] at hx'
    have HC7 := Lib.hid hC7
    have hx := Lib.hid hx'
    clear hx' hC7
    simp only [fg, Nat.reduceAdd, Nat.reduceLeDiff, and_true, and_false, and_self, if_true, if_false]
    rw [hu]
    clear hu
    refine wpList_cut 8 81 88 (BoolAt 88 W (C7 ∧ lo ≤ (ll : Int))) ?_ ?_
    · simp only [List.take_succ_cons, List.take_zero]
      clear hV hS HW
      cases x
      all_goals go_wp2_with fail
      all_goals
        (try (rename f0 = 10 => e; subst e))
        refine CutR.intro rfl ⟨_, rfl, rfl, ?_⟩
        have h := hx.out
        clear hx
        simp at h
        simp [*]
        try omega
    simp only [List.drop_succ_cons, List.drop_zero]
    clear hx
    rintro u _ ⟨x, hu, rfl, hx'⟩
    obtain ⟨C8, hC8⟩ : ∃ C : Prop, C = (C7 ∧ lo ≤ (ll : Int)) := ⟨_, rfl⟩
    rw [← hC8] at hx'
    have HC8 := Lib.hid hC8
    have hx := Lib.hid hx'
    clear hx' hC8
    simp only [fg, Nat.reduceAdd, Nat.reduceLeDiff, and_true, and_false, and_self, if_true, if_false]
    rw [hu]
    clear hu
    refine wpList_cut 8 89 96 (BoolAt 96 W (C8 ∧ (ll : Int) ≤ hi)) ?_ ?_
    · simp only [List.take_succ_cons, List.take_zero]
      clear hV hS HW
      cases x
      all_goals go_wp2_with fail
      all_goals
        (try (rename f0 = 10 => e; subst e))
        refine CutR.intro rfl ⟨_, rfl, rfl, ?_⟩
        have h := hx.out
        clear hx
        simp at h
        simp [*]
        try omega
    simp only [List.drop_succ_cons, List.drop_zero]
    clear hx
    rintro u _ ⟨x, hu, rfl, hx'⟩
    obtain ⟨C9, hC9⟩ : ∃ C : Prop, C = (C8 ∧ (ll : Int) ≤ hi) := ⟨_, rfl⟩
    rw [← hC9] at hx'
    have HC9 := Lib.hid hC9
    have hx := Lib.hid hx'
    clear hx' hC9
    simp only [fg, Nat.reduceAdd, Nat.reduceLeDiff, and_true, and_false, and_self, if_true, if_false]
    rw [hu]
    clear hu
    apply wpList_nil
    have hR : C9 ↔ E.okL f0 f2 lo hi ll := by
      rw [HC9.out, HC8.out, HC7.out]
      unfold E.okL
      constructor
      · rintro ⟨⟨a, b⟩, c⟩; exact ⟨a, b, c⟩
      · rintro ⟨a, b, c⟩; exact ⟨⟨a, b⟩, c⟩
    have HR := Lib.hid hR
    clear hR HC7 HC8 HC9
    cases x
    · have hx2 := HR.out.1 (Classical.not_not.1 (fun h => by simpa using hx.out.2 h))
      have Hq1 := Lib.hid (show res = if b = true then v else z by
        rw [Hq.out, Hx1.out.1, decide_eq_true Hx1.out.2, decide_eq_true hx2]; simp)
      clear hx2 hx HR Hx1 Hq
      cases b
      · clear hV
        go_wp2_with fail
        refine (hS.out _ HW.out.1).mono ?_
        rintro e w2 ⟨rfl, hbw2⟩
        have Hb2 := Lib.hid (HW.out.2.1.trans (hbw2.mono HW.out.2.1.size))
        clear hbw2
        go_wp2_with fail
        go_ret
        exact ⟨by rw [Hq1.out] <;> rfl, Hb2.out⟩
      · clear hS
        go_wp2_with fail
        refine (hV.out _ HW.out.1).mono ?_
        rintro e w2 ⟨rfl, hbw2⟩
        have Hb2 := Lib.hid (And.intro (HW.out.2.1.trans (hbw2.mono HW.out.2.1.size)) (hbw2.cell (p := ⟨g, 3, none⟩) HW.out.2.2.2))
        have d3' := Hb2.out.2.trans d3
        clear hbw2
        cases v
        · go_wp2_with fail
          go_ret
          exact ⟨by rw [Hq1.out] <;> rfl, Hb2.out.1⟩
        · go_wp2_with fail
          go_ret
          exact ⟨by rw [Hq1.out] <;> rfl, Hb2.out.1⟩
    · have hx2 := Lib.hid (hx.out.1 rfl)
      clear hx hV hS
      go_wp2_with fail
      go_ret
      refine ⟨?_, HW.out.2.1⟩
      have e : res = false := by
        cases hres : res
        · rfl
        · exfalso
          have h := Hq.out
          rw [hres] at h
          have h := h.symm
          simp only [Bool.and_eq_true, decide_eq_true_eq] at h
          exact hx2.out (HR.out.2 h.1.2)
      rw [e] <;> rfl
  · have hx1 := Lib.hid (hx.out.1 rfl)
    clear hx hV hS
    go_wp2_with fail
    go_ret
    refine ⟨?_, HW.out.2.1⟩
    have e : res = false := by
      cases hres : res
      · rfl
      · exfalso
        have h := Hq.out
        rw [hres] at h
        have h := h.symm
        simp only [Bool.and_eq_true, decide_eq_true_eq] at h
        exact hx1.out (HR.out.2 ⟨h.1.1.1, h.1.1.2⟩)
    rw [e] <;> rfl
end Go.Proofs.YtbhmeapnmpgggaaGreatDoor
