/- errs.Has and conduitref35.Has: the walks. No condition. -/
import Derived.Test.YtbhmeapnmpgggaaGreatDoorCan
namespace Go.Proofs.YtbhmeapnmpgggaaGreatDoor
open Go.RowKit

set_option maxHeartbeats 2000000 in
set_option maxRecDepth 100000 in
theorem hasE1_any (k face : Int) (w : World) : Calls Tryz.prog 21 #[.int .i64 k, .int .i64 face] w fun e w' => e = .returned (.bool (hasE k face)) ∧ w' = w := by
  go_enter Tryz.func21, Tryz.ntmps21
  go_wp2_with fail
  all_goals
    go_ret
    refine ⟨congrArg (fun b => Ending.returned (.bool b)) ?_, rfl⟩
  all_goals first
    | (have e : face = 0 := eq_of_beq (by assumption); subst e; simp [hasE]; done)
    | (have e : face = 1 := eq_of_beq (by assumption); subst e; simp [hasE]; done)
    | (have e : face = 2 := eq_of_beq (by assumption); subst e; simp [hasE]; done)
    | (have e : face = 3 := eq_of_beq (by assumption); subst e; simp [hasE]; done)
    | (have e : face = 4 := eq_of_beq (by assumption); subst e; simp [hasE]; done)
    | (have e : face = 5 := eq_of_beq (by assumption); subst e; simp [hasE]; done)
    | (have e : face = 6 := eq_of_beq (by assumption); subst e; simp [hasE]; done)
    | (have e : face = 7 := eq_of_beq (by assumption); subst e; simp [hasE]; done)
    | (simp_all [hasE]; done)

set_option maxHeartbeats 2000000 in
set_option maxRecDepth 100000 in
theorem hasE0_any (k face : Int) (w : World) : Calls Tryz.prog 20 #[.int .i64 k, .int .i64 face] w fun e w' => e = .returned (.bool (hasE k face)) ∧ Below w.heap.size w w' := by
  by_cases h0 : k ≤ 0
  · have hr := Lib.hid (show hasE k face = false by
      have a1 : k ≠ 1 := by omega
      have a3 : k ≠ 3 := by omega
      have a4 : k ≠ 4 := by omega
      have a8 : k ≠ 8 := by omega
      have a9 : k ≠ 9 := by omega
      have a10 : k ≠ 10 := by omega
      simp [hasE, a1, a3, a4, a8, a9, a10])
    rw [hr.out]
    clear hr
    go_enter Tryz.func20, Tryz.ntmps20
    go_wp2_with fail
    go_ret
    exact ⟨rfl, Below.refl _ _⟩
  · by_cases h1 : 11 ≤ k
    · have hr := Lib.hid (show hasE k face = false by
        have a1 : k ≠ 1 := by omega
        have a3 : k ≠ 3 := by omega
        have a4 : k ≠ 4 := by omega
        have a8 : k ≠ 8 := by omega
        have a9 : k ≠ 9 := by omega
        have a10 : k ≠ 10 := by omega
        simp [hasE, a1, a3, a4, a8, a9, a10])
      rw [hr.out]
      clear hr
      go_enter Tryz.func20, Tryz.ntmps20
      go_wp2_with fail
      go_ret
      exact ⟨rfl, Below.refl _ _⟩
    · have hV := Lib.hid (fun w => valueE_any (.mk k 0 0 ⟨#[]⟩ D.zero none 0 [] none 0 []) w)
      simp only [E.v, E.cs, D.zero, E.k_mk, E.id_mk, E.code_mk, E.t_mk, E.body_mk, E.cA_mk, E.cc_mk, E.codes_mk, E.A_mk, E.c_mk, E.l_mk, D.k_mk, D.i_mk, D.b_mk, D.t_mk, D.A_mk, D.c_mk, D.l_mk, List.length_nil] at hV
      go_enter Tryz.func20, Tryz.ntmps20
      go_wp2_with fail
      refine (hV.out _).mono ?_
      rintro e w1 ⟨v, rfl, hev, hbw⟩
      have HE := Lib.hid hev
      have Hb := Lib.hid hbw
      clear hev hbw hV
      go_wp2_with fail
      refine (can_any HE.out face _).mono ?_
      rintro e w2 ⟨rfl, rfl⟩
      go_wp2_with fail
      go_ret
      exact ⟨rfl, Hb.out⟩
end Go.Proofs.YtbhmeapnmpgggaaGreatDoor
