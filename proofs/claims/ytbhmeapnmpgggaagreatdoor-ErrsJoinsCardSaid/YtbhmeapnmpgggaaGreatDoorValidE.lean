/- Valid of package errs and of conduitref35: the walks. Condition: the tree lies in the world. -/
import Derived.Test.YtbhmeapnmpgggaaGreatDoorLookE
import Derived.Test.YtbhmeapnmpgggaaGreatDoorCountE
import Derived.Test.YtbhmeapnmpgggaaGreatDoorRightE
import Derived.Test.YtbhmeapnmpgggaaGreatDoorWeightE
import Derived.Test.YtbhmeapnmpgggaaGreatDoorPlainE
namespace Go.Proofs.YtbhmeapnmpgggaaGreatDoor
open Go.RowKit

set_option maxHeartbeats 1000000 in
set_option maxRecDepth 100000 in
theorem validE1_any (d : E) (w : World) (ha : d.In w) :
    Calls Tryz.prog 11 #[d.v] w fun e w' => e = .returned (.bool d.valid1) ∧ Below w.heap.size w w' := by
  have h1 := Lib.hid (fun w ha => countE_any d.size d 1 4096 w (Nat.le_refl _) ha (by omega) (by omega) (by omega) (by omega))
  have h2 := Lib.hid (fun w ha => rightE_any d.size d w (Nat.le_refl _) ha)
  have h3 := Lib.hid (fun w ha => weightE_any d.size d w (Nat.le_refl _) ha)
  have hbd := E.count_bd d 1 4096 (by omega)
  have hv : d.valid1 = (decide (d.count 1 4096 ≤ 4096) && d.right && decide (d.weight ≤ 4096)) := rfl
  have Ha := Lib.hid ha
  clear ha
  simp only [E.v, E.cs] at h1 h2 h3 ⊢
  generalize d.valid1 = v, d.right = r, d.weight = wt, d.count 1 4096 = y at *
  generalize d.k = f0, d.id = f1, d.code = f2, d.t = f3, d.body.k = f4, d.body.i = f5, d.body.b = f6, d.body.t = f7, d.body.A = f8, d.body.l.length = f9, d.body.c = f10, d.cA = f11, d.codes.length = f12, d.cc = f13, d.A = A, d.l.length = ll, d.c = c at *
  have Hv := Lib.hid hv
  clear hv
  have hal := (Below.refl w.heap.size w).alloc (Nat.le_refl _) (.cells #[Value.int .i64 f0, .int .i64 f1, .int .i64 f2, .string f3, .int .i64 f4, .int .i64 f5, .int .u64 f6, .string f7, .slice f8 f9 f10, .slice f11 f12 f13, .slice A ll c] 29)
  have bx := Blk.new w 29 #[Value.int .i64 f0, .int .i64 f1, .int .i64 f2, .string f3, .int .i64 f4, .int .i64 f5, .int .u64 f6, .string f7, .slice f8 f9 f10, .slice f11 f12 f13, .slice A ll c]
  have hin := Ha.out.below hal
  go_enter Tryz.func11, Tryz.ntmps11
  go_wp2_with fail
  refine (h1.out _ hin).mono ?_
  rintro e w1 ⟨rfl, hbw⟩
  have bx := bx.below hbw bx.lt
  have hk := hal.trans (hbw.mono hal.size)
  have hin := hin.below hbw
  have e0 := bx.cell 0
  have e1 := bx.cell 1
  have e2 := bx.cell 2
  have e3 := bx.cell 3
  have e4 := bx.cell 4
  have e5 := bx.cell 5
  have e6 := bx.cell 6
  have e7 := bx.cell 7
  have e8 := bx.cell 8
  have e9 := bx.cell 9
  have e10 := bx.cell 10
  simp at e0 e1 e2 e3 e4 e5 e6 e7 e8 e9 e10
  have HW := Lib.hid (And.intro hk (And.intro bx hin))
  clear hbw hal hk hin bx h1 Ha
  by_cases g1 : y ≤ 4096
  · go_wp2_with fail
    refine (h2.out _ HW.out.2.2).mono ?_
    rintro e w2 ⟨rfl, hbw⟩
    have bx := HW.out.2.1.below hbw HW.out.2.1.lt
    have hk := HW.out.1.trans (hbw.mono HW.out.1.size)
    have hin := HW.out.2.2.below hbw
    clear e0 e1 e2 e3 e4 e5 e6 e7 e8 e9 e10
    have e0 := bx.cell 0
    have e1 := bx.cell 1
    have e2 := bx.cell 2
    have e3 := bx.cell 3
    have e4 := bx.cell 4
    have e5 := bx.cell 5
    have e6 := bx.cell 6
    have e7 := bx.cell 7
    have e8 := bx.cell 8
    have e9 := bx.cell 9
    have e10 := bx.cell 10
    simp at e0 e1 e2 e3 e4 e5 e6 e7 e8 e9 e10
    have HW2 := Lib.hid (And.intro hk hin)
    clear hbw hk hin bx h2 HW
    cases r
    · go_wp2_with fail
      go_ret
      exact ⟨by rw [Hv.out]; simp, HW2.out.1⟩
    · go_wp2_with fail
      refine (h3.out _ HW2.out.2).mono ?_
      rintro e w3 ⟨rfl, hbw⟩
      have hk := Lib.hid (HW2.out.1.trans (hbw.mono HW2.out.1.size))
      clear hbw
      go_wp2_with fail
      go_ret
      exact ⟨by rw [Hv.out]; simp [g1], hk.out⟩
  · go_wp2_with fail
    go_ret
    exact ⟨by rw [Hv.out, decide_eq_false (show ¬ y ≤ 4096 by omega)]; simp, HW.out.1⟩

set_option maxHeartbeats 1000000 in
set_option maxRecDepth 100000 in
theorem validE0_any (d : E) (w : World) (ha : d.In w) :
    Calls Tryz.prog 19 #[d.v] w fun e w' => e = .returned (.bool d.valid0) ∧ Below w.heap.size w w' := by
  have h1 := Lib.hid (fun (B pb mb : Nat) w ha hlo h2 h3 h4 h5 h6 => lookE_any d.size d 1 0 0 B pb mb w (Nat.le_refl _) ha hlo h2 h3 h4 h5 h6 (by omega) (by omega) (by omega) (by omega) (by omega) (by omega))
  have hlo := ha.lo
  have Ha := Lib.hid (And.intro ha hlo)
  clear ha hlo
  have hv : d.valid0 = (d.look 1 0 0).1 := rfl
  simp only [E.v, E.cs] at h1 ⊢
  generalize d.valid0 = v at *
  generalize d.look 1 0 0 = y at *
  obtain ⟨y1, y2, y3⟩ := y
  simp only at hv h1
  subst hv
  generalize d.k = f0, d.id = f1, d.code = f2, d.t = f3, d.body.k = f4, d.body.i = f5, d.body.b = f6, d.body.t = f7, d.body.A = f8, d.body.l.length = f9, d.body.c = f10, d.cA = f11, d.codes.length = f12, d.cc = f13, d.A = A, d.l.length = ll, d.c = c at *
  go_enter Tryz.func19, Tryz.ntmps19
  go_wp2_with fail
  have hal := (((Below.refl w.heap.size w).alloc (Nat.le_refl _) (.cells #[Value.int .i64 f0, .int .i64 f1, .int .i64 f2, .string f3, .int .i64 f4, .int .i64 f5, .int .u64 f6, .string f7, .slice f8 f9 f10, .slice f11 f12 f13, .slice A ll c] 29)).alloc (by simp <;> omega) (.cells #[Value.int .i64 0] 3)).alloc (by simp <;> omega) (.cells #[Value.int .i64 0] 3)
  have hin := Ha.out.1.below hal
  refine (h1.out w.heap.size (w.heap.size + 1) (w.heap.size + 2) _ hin Ha.out.2 (by omega) (by omega) (by omega) ((Blk.new' (by simp) _ _).alloc _) (Blk.new' (by simp) _ _)).mono ?_
  rintro e w1 ⟨rfl, _, _, hk⟩
  have Hk := Lib.hid (hal.trans (hk.below (by simp <;> omega) (by simp <;> omega)))
  clear hk hal hin h1
  go_wp2_with fail
  go_ret
  exact ⟨rfl, Hk.out⟩
end Go.Proofs.YtbhmeapnmpgggaaGreatDoor
