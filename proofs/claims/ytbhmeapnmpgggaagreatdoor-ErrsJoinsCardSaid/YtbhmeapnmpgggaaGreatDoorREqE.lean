/- R.Equal of layer 35: the walk. Conditions: both errors lie in the world and are right. -/
import Derived.Test.YtbhmeapnmpgggaaGreatDoorREq1
import Derived.Test.YtbhmeapnmpgggaaGreatDoorEqualE
namespace Go.Proofs.YtbhmeapnmpgggaaGreatDoor
open Go.RowKit Go.Joins

def kindT (k : Int) : Int := if k = 7 then 2 else k
set_option maxHeartbeats 1000000 in
theorem kindType_any (k : Int) (w : World) : Calls Tryz.prog 48 #[.int .i64 k] w fun e w' => e = .returned (.int .i64 (kindT k)) ∧ w' = w := by
  unfold kindT
  by_cases h : k = 7
  · subst h
    go_enter Tryz.func48, Tryz.ntmps48
    go_wp2_with fail
    go_ret
    exact ⟨rfl, rfl⟩
  · rw [if_neg h]
    go_enter Tryz.func48, Tryz.ntmps48
    go_wp2_with fail
    go_ret
    exact ⟨rfl, rfl⟩

set_option maxHeartbeats 4000000 in
set_option maxRecDepth 100000 in
theorem reqE_any (e t : E) (w : World) (he : e.In w) (ht : t.In w) (her : e.right = true) (htr : t.right = true) :
    Calls Tryz.prog 14 #[e.v, t.v] w (ReqP (E.eqr D.req e t) w) := by
  have h49 := Lib.hid (fun W (h : Below w.heap.size w W) (h1 : e.k = 5) (h2 : t.k = 5) => req1_any e.body.size e.body t.body W (Nat.le_refl _) (he.bod.below h) (ht.bod.below h) (E.fit_body (E.right_fit her) h1).2.2 (E.fit_body (E.right_fit htr) h2).2.2)
  have hW : ∀ W, W = ((w.alloc (.cells e.cs.toArray 29)).alloc (.cells t.cs.toArray 29)) → Blk W w.heap.size 29 e.cs.toArray ∧ Blk W (w.heap.size + 1) 29 t.cs.toArray ∧ Below w.heap.size w W := fun W h => by
    subst h
    exact ⟨(Blk.new _ _ _).alloc _, Blk.new' (by simp) _ _, two_alloc _ _ _⟩
  have HW := Lib.hid hW
  have hk1 := Lib.hid (fun w => kindType_any e.k w)
  have hk2 := Lib.hid (fun w => kindType_any t.k w)
  have hr : E.eqr D.req e t = if e.k ≠ t.k then (false, false) else if e.k = 1 ∨ e.k = 10 then (decide (e.code = t.code) && decide (e.t = t.t), false) else if e.k = 5 then D.req e.body t.body else if e.k = 6 then (false, true) else (decide (e.id = t.id), false) := rfl
  have Hr := Lib.hid hr
  clear hW he ht her htr hr
  generalize E.eqr D.req e t = r at *
  simp only [E.v, E.cs, D.v, D.cs] at HW h49 ⊢
  generalize D.req e.body t.body = q at *
  generalize e.k = f0, e.id = f1, e.code = f2, e.t = f3, e.body.k = f4, e.body.i = f5, e.body.b = f6, e.body.t = f7, e.body.A = f8, e.body.l.length = f9, e.body.c = f10, e.cA = f11, e.codes.length = f12, e.cc = f13, e.A = f14, e.l.length = f15, e.c = f16 at *
  generalize t.k = g0, t.id = g1, t.code = g2, t.t = g3, t.body.k = g4, t.body.i = g5, t.body.b = g6, t.body.t = g7, t.body.A = g8, t.body.l.length = g9, t.body.c = g10, t.cA = g11, t.codes.length = g12, t.cc = g13, t.A = g14, t.l.length = g15, t.c = g16 at *
  by_cases hkt : kindT f0 = kindT g0
  · have hkb : (kindT f0 != kindT g0) = false := by simpa using hkt
    by_cases h6 : f0 = 6
    · subst h6
      have hg : g0 = 6 := by unfold kindT at hkt; split at hkt <;> split at hkt <;> omega
      subst hg
      have hrr : r = (false, true) := by rw [Hr.out]; simp
      subst hrr
      clear hkt h49
      go_enter Tryz.func14, Tryz.ntmps14
      go_upto_region 1 with fail
      obtain ⟨b1, b2, b3⟩ := HW.out _ rfl
      clear HW
      generalize (w.alloc _).alloc _ = W at *
      have c0 := b1.cell 0
      have d0 := b2.cell 0
      simp at c0 d0
      have Hb := Lib.hid b3
      clear b1 b2 b3
      go_quiet ((first | (refine Calls.quiet_of_same (hk1.out _)) | (refine Calls.quiet_of_same (hk2.out _))))
      go_wp2_with fail
      go_ret2
      exact .mk (Hb.out.trans (below_draws _ _ _)) rfl rfl
    · by_cases h5 : f0 = 5
      · subst h5
        have hg : g0 = 5 := by unfold kindT at hkt; split at hkt <;> split at hkt <;> omega
        subst hg
        have hrr : r = q := by rw [Hr.out]; simp
        subst hrr
        have hc := Lib.hid (fun W h => h49.out W h rfl rfl)
        obtain ⟨r1, r2⟩ := r
        clear hkt h49 h6
        cases r2
        · go_enter Tryz.func14, Tryz.ntmps14
          go_upto_region 1 with fail
          obtain ⟨b1, b2, b3⟩ := HW.out _ rfl
          clear HW
          generalize (w.alloc _).alloc _ = W at *
          have c0 := b1.cell 0
          have d0 := b2.cell 0
          have c4 := b1.cell 4
          have d4 := b2.cell 4
          have c5 := b1.cell 5
          have d5 := b2.cell 5
          have c6 := b1.cell 6
          have d6 := b2.cell 6
          have c7 := b1.cell 7
          have d7 := b2.cell 7
          have c8 := b1.cell 8
          have d8 := b2.cell 8
          simp at c0 d0 c4 d4 c5 d5 c6 d6 c7 d7 c8 d8
          have Hb := Lib.hid b3
          clear b1 b2 b3
          go_quiet ((first | (refine Calls.quiet_of_same (hk1.out _)) | (refine Calls.quiet_of_same (hk2.out _))))
          go_wp2_with fail
          refine (hc.out _ (Hb.out.trans (below_draws _ _ _))).mono ?_
          rintro en w1 ⟨rfl, hb⟩
          have Hf := Lib.hid ((Hb.out.trans (below_draws w.heap.size W nq)).trans (hb.mono (Nat.le_trans Hb.out.size (Nat.le_refl _))))
          clear hb
          go_wp2_with fail
          go_ret2
          exact .mk Hf.out rfl rfl
        · go_enter Tryz.func14, Tryz.ntmps14
          go_upto_region 1 with fail
          obtain ⟨b1, b2, b3⟩ := HW.out _ rfl
          clear HW
          generalize (w.alloc _).alloc _ = W at *
          have c0 := b1.cell 0
          have d0 := b2.cell 0
          have c4 := b1.cell 4
          have d4 := b2.cell 4
          have c5 := b1.cell 5
          have d5 := b2.cell 5
          have c6 := b1.cell 6
          have d6 := b2.cell 6
          have c7 := b1.cell 7
          have d7 := b2.cell 7
          have c8 := b1.cell 8
          have d8 := b2.cell 8
          simp at c0 d0 c4 d4 c5 d5 c6 d6 c7 d7 c8 d8
          have Hb := Lib.hid b3
          clear b1 b2 b3
          go_quiet ((first | (refine Calls.quiet_of_same (hk1.out _)) | (refine Calls.quiet_of_same (hk2.out _))))
          go_wp2_with fail
          refine (hc.out _ (Hb.out.trans (below_draws _ _ _))).mono ?_
          rintro en w1 ⟨rfl, hb⟩
          have Hf := Lib.hid ((Hb.out.trans (below_draws w.heap.size W nq)).trans (hb.mono (Nat.le_trans Hb.out.size (Nat.le_refl _))))
          clear hb
          go_wp2_with fail
          go_ret2
          exact .mk Hf.out rfl rfl
      · by_cases h1 : f0 = 1 ∨ f0 = 10
        · have hg : g0 = f0 := by unfold kindT at hkt; split at hkt <;> split at hkt <;> omega
          subst hg
          have hrr : r = (decide (f2 = g2) && decide (f3 = g3), false) := by rw [Hr.out, if_neg (by simp), if_pos h1]
          subst hrr
          clear hkt h49 Hr
          by_cases hc : f2 = g2
          · subst hc
            by_cases ht : f3 = g3
            · subst ht
              rcases h1 with rfl | rfl
              all_goals
                go_enter Tryz.func14, Tryz.ntmps14
                go_upto_region 1 with fail
                obtain ⟨b1, b2, b3⟩ := HW.out _ rfl
                clear HW
                generalize (w.alloc _).alloc _ = W at *
                have c0 := b1.cell 0
                have d0 := b2.cell 0
                have c2 := b1.cell 2
                have d2 := b2.cell 2
                have c3 := b1.cell 3
                have d3 := b2.cell 3
                simp at c0 d0 c2 d2 c3 d3
                have Hb := Lib.hid b3
                clear b1 b2 b3
                go_quiet ((first | (refine Calls.quiet_of_same (hk1.out _)) | (refine Calls.quiet_of_same (hk2.out _))))
                go_wp2_with fail
                go_ret2
                exact .mk (Hb.out.trans (below_draws _ _ _)) (by simp) rfl
            · have ht' : ¬ f3.toList = g3.toList := fun e => ht (toList_inj e)
              have Ht := Lib.hid ht
              clear ht
              rcases h1 with rfl | rfl
              all_goals
                go_enter Tryz.func14, Tryz.ntmps14
                go_upto_region 1 with fail
                obtain ⟨b1, b2, b3⟩ := HW.out _ rfl
                clear HW
                generalize (w.alloc _).alloc _ = W at *
                have c0 := b1.cell 0
                have d0 := b2.cell 0
                have c2 := b1.cell 2
                have d2 := b2.cell 2
                have c3 := b1.cell 3
                have d3 := b2.cell 3
                simp at c0 d0 c2 d2 c3 d3
                have Hb := Lib.hid b3
                clear b1 b2 b3
                go_quiet ((first | (refine Calls.quiet_of_same (hk1.out _)) | (refine Calls.quiet_of_same (hk2.out _))))
                go_wp2_with fail
                go_ret2
                exact .mk (Hb.out.trans (below_draws _ _ _)) (by simp [Ht.out, ht']) rfl
          · rcases h1 with rfl | rfl
            all_goals
              go_enter Tryz.func14, Tryz.ntmps14
              go_upto_region 1 with fail
              obtain ⟨b1, b2, b3⟩ := HW.out _ rfl
              clear HW
              generalize (w.alloc _).alloc _ = W at *
              have c0 := b1.cell 0
              have d0 := b2.cell 0
              have c2 := b1.cell 2
              have d2 := b2.cell 2
              have c3 := b1.cell 3
              have d3 := b2.cell 3
              simp at c0 d0 c2 d2 c3 d3
              have Hb := Lib.hid b3
              clear b1 b2 b3
              go_quiet ((first | (refine Calls.quiet_of_same (hk1.out _)) | (refine Calls.quiet_of_same (hk2.out _))))
              go_wp2_with fail
              go_ret2
              exact .mk (Hb.out.trans (below_draws _ _ _)) (by simp [hc]) rfl
        · have hrr : r = (decide (f0 = g0) && decide (f1 = g1), false) := by
            rw [Hr.out]
            by_cases h : f0 = g0
            · rw [if_neg (by simpa using h), if_neg h1, if_neg h5, if_neg h6, decide_eq_true h]; simp
            · rw [if_pos h, decide_eq_false h]; simp
          subst hrr
          have h1a : f0 ≠ 1 := fun h => h1 (.inl h)
          have h1b : f0 ≠ 10 := fun h => h1 (.inr h)
          clear hkt h49 Hr h1
          by_cases hk : f0 = g0
          · subst hk
            by_cases hi : f1 = g1
            · subst hi
              go_enter Tryz.func14, Tryz.ntmps14
              go_upto_region 1 with fail
              obtain ⟨b1, b2, b3⟩ := HW.out _ rfl
              clear HW
              generalize (w.alloc _).alloc _ = W at *
              have c0 := b1.cell 0
              have d0 := b2.cell 0
              have c1 := b1.cell 1
              have d1 := b2.cell 1
              simp at c0 d0 c1 d1
              have Hb := Lib.hid b3
              clear b1 b2 b3
              go_quiet ((first | (refine Calls.quiet_of_same (hk1.out _)) | (refine Calls.quiet_of_same (hk2.out _))))
              go_wp2_with fail
              go_ret2
              exact .mk (Hb.out.trans (below_draws _ _ _)) (by simp) rfl
            · go_enter Tryz.func14, Tryz.ntmps14
              go_upto_region 1 with fail
              obtain ⟨b1, b2, b3⟩ := HW.out _ rfl
              clear HW
              generalize (w.alloc _).alloc _ = W at *
              have c0 := b1.cell 0
              have d0 := b2.cell 0
              have c1 := b1.cell 1
              have d1 := b2.cell 1
              simp at c0 d0 c1 d1
              have Hb := Lib.hid b3
              clear b1 b2 b3
              go_quiet ((first | (refine Calls.quiet_of_same (hk1.out _)) | (refine Calls.quiet_of_same (hk2.out _))))
              go_wp2_with fail
              go_ret2
              exact .mk (Hb.out.trans (below_draws _ _ _)) (by simp [hi]) rfl
          · go_enter Tryz.func14, Tryz.ntmps14
            go_upto_region 1 with fail
            obtain ⟨b1, b2, b3⟩ := HW.out _ rfl
            clear HW
            generalize (w.alloc _).alloc _ = W at *
            have c0 := b1.cell 0
            have d0 := b2.cell 0
            have c1 := b1.cell 1
            have d1 := b2.cell 1
            simp at c0 d0 c1 d1
            have Hb := Lib.hid b3
            clear b1 b2 b3
            go_quiet ((first | (refine Calls.quiet_of_same (hk1.out _)) | (refine Calls.quiet_of_same (hk2.out _))))
            go_wp2_with fail
            go_ret2
            exact .mk (Hb.out.trans (below_draws _ _ _)) (by simp [hk]) rfl
  · have hrr : r = (false, false) := by rw [Hr.out, if_pos (fun e => hkt (by rw [e]))]
    subst hrr
    have hne : (kindT f0 != kindT g0) = true := by simpa using hkt
    clear hkt h49
    go_enter Tryz.func14, Tryz.ntmps14
    go_upto_region 1 with fail
    obtain ⟨b1, b2, b3⟩ := HW.out _ rfl
    clear HW
    generalize (w.alloc _).alloc _ = W at *
    have c0 := b1.cell 0
    have d0 := b2.cell 0
    simp at c0 d0
    have Hb := Lib.hid b3
    clear b1 b2 b3
    go_quiet ((first | (refine Calls.quiet_of_same (hk1.out _)) | (refine Calls.quiet_of_same (hk2.out _))))
    go_wp2_with fail
    go_ret2
    exact .mk (Hb.out.trans (below_draws _ _ _)) rfl rfl
end Go.Proofs.YtbhmeapnmpgggaaGreatDoor
