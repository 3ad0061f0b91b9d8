/- errs.compared: the walk, of any closure whose contract is given. Condition: the sentinel's variable holds a pointer. -/
import Derived.Test.YtbhmeapnmpgggaaGreatDoorEqualE
import Derived.Defers
import Derived.Recover
import Derived.LaidEql
namespace Go.Proofs.YtbhmeapnmpgggaaGreatDoor
open Go.RowKit

theorem cmp_idle (p q : Addr) (w : World) :
    CallsD Tryz.prog 88 #[.pointer (some p), .pointer (some q)] .returning w fun e u' w' => e = .returned (.tuple #[]) ∧ u' = .returning ∧ w' = w := by
  refine callsD_of_wpS Tryz.func88 rfl fun c₀ cs hu => ?_
  apply wpS_seq
  apply wpS_region
  simp [wpOpsS, go_sem, recoverD, hu, Tryz.ntmps88, Exit.thenS]
  apply wpS_seq
  apply wpS_region
  simp [wpOpsS, go_sem, Exit.thenS]
  refine wpS_cond (t := false) (by simp [Act.eval, Array.replicate]) ?_
  simp only [Bool.false_eq_true, if_false]
  refine wpS_of_wp (wp_skip ?_)
  cases c₀
  simp_all [bodyPostS, results, Tryz.results88]
theorem compErrS : (Tryz.prog.info? 296).map (·.comparable) = some true := by kernel_rfl
theorem infoErrS : (Tryz.prog.info? 298).isSome = true := by kernel_rfl
theorem underErrS : Tryz.prog.underlying 296 = some (.pointer 298) := by kernel_rfl
theorem neqSame (u : Addr) (w : World) : (binOp .neq 20 (.iface 296 (.pointer (some u))) (.iface 296 (.pointer (some u)))).run Tryz.prog w = .ok (.bool false) w := by
  cases hi : Tryz.prog.info? 296 with
  | none => have := compErrS; rw [hi] at this; cases this
  | some i =>
    have hcc : i.comparable = true := by simpa [hi] using compErrS
    cases hj : Tryz.prog.info? 298 with
    | none => have := infoErrS; rw [hj] at this; cases this
    | some j =>
      have h := run_equalIn_iface_ptr_same w 9998 u Tryz.underlying20 underErrS hi hcc hj
      simp only [binOp]
      simp [Op.equal, Op.maxDepth, h]

theorem cmp_panicking (p q : Addr) (x : Bool) (z : Int) (u : Addr) (older : List PanicEntry) (w : World) (hc : w.cell? p = some (.bool x)) (hz : w.frozen? p = false) (hd : w.cell? q = some (.int .i64 z)) (hy : w.frozen? q = false)
    (hpq : p.block ≠ q.block) (hs : w.cell? ⟨0, 0, none⟩ = some (.iface 296 (.pointer (some u)))) :
    CallsD Tryz.prog 88 #[.pointer (some p), .pointer (some q)] (.panicking ({ v := .iface 296 (.pointer (some u)), recovered := false } :: older)) w fun e u' w' =>
      e = .returned (.tuple #[]) ∧ u' = .panicking ({ v := .iface 296 (.pointer (some u)), recovered := true } :: older) ∧ w' = (w.setCell p (.bool false)).setCell q (.int .i64 10) := by
  have hq : (w.setCell p (.bool false)).cell? q = some (.int .i64 z) := by rw [World.cell?_setCell_other]; exact hd; exact fun e => hpq (by rw [e])
  have hq2 : (w.setCell p (.bool false)).frozen? q = false := by rw [World.frozen?_setCell]; exact hy
  refine callsD_of_wpS Tryz.func88 rfl fun c₀ cs hu => ?_
  apply wpS_seq
  apply wpS_region
  simp [wpOpsS, go_sem, recoverD, hu, Tryz.ntmps88, Exit.thenS]
  apply wpS_seq
  apply wpS_region
  simp [wpOpsS, go_sem, Exit.thenS]
  refine wpS_cond (t := true) (by simp [Act.eval, Array.replicate]) ?_
  simp only [if_true]
  apply wpS_seq
  apply wpS_seq
  apply wpS_region
  simp [wpOpsS, go_sem, hs, neqSame, Exit.thenS]
  refine wpS_cond (t := false) (by simp [Act.eval, Array.replicate]) ?_
  simp only [Bool.false_eq_true, if_false]
  refine wpS_of_wp (wp_skip ?_)
  simp only [Exit.thenS]
  apply wpS_region
  simp [wpOpsS, go_sem, hc, hz, hq, hq2, bodyPostS, results, Tryz.results88]

/-- what a compared closure does -/
def CmpGoes (_u : Addr) (r : Bool × Bool) (w : World) (e : Ending) (w' : World) : Prop := e = .returned (.tuple #[.bool (if r.2 then false else r.1), .int .i64 (if r.2 then 10 else 0)]) ∧ Below w.heap.size w w'

set_option maxHeartbeats 2000000 in
set_option maxRecDepth 100000 in
theorem compared_any (u : Addr) (r : Bool × Bool) (F : Nat) (caps : Array Value) (w : World) (hs : Sen u w) (hcf : ∀ args w, (callFunc F args).run Tryz.prog w = .ok (.enter F args) w)
    (hF : ∀ w', Below w.heap.size w w' → Calls Tryz.prog F caps w' (EqGoes u r w')) :
    Calls Tryz.prog 45 #[.func (.func F) #[] caps] w (CmpGoes u r w) := by
  have hmf : ∀ (fn : Fn) (first cap : Array Value) (w : World), (Instr.makeFunc fn first cap).run Tryz.prog w = .ok (.func fn first cap) w := fun _ _ _ _ => rfl
  have HF := Lib.hid hF
  have Hs := Lib.hid hs
  clear hF hs
  obtain ⟨r1, r2⟩ := r
  have hW : ∀ W, W = ((w.alloc (.cells #[.bool false] 4)).alloc (.cells #[.int .i64 0] 32)) → Blk W w.heap.size 4 #[.bool false] ∧ Blk W (w.heap.size + 1) 32 #[.int .i64 0] ∧ Below w.heap.size w W := fun W h => by
    subst h
    exact ⟨(Blk.new _ _ _).alloc _, Blk.new' (by simp) _ _, ((Below.refl _ _).alloc (Nat.le_refl _) _).alloc (by simp) _⟩
  have HW := Lib.hid hW
  clear hW
  cases r2
  · go_enter_defers Tryz.func45, Tryz.ntmps45
    go_wp2_with fail
    obtain ⟨b1, b2, b3⟩ := HW.out _ rfl
    clear HW
    generalize (w.alloc _).alloc _ = W at *
    refine (HF.out W b3).mono ?_
    rintro e w1 ⟨hb1, he1⟩
    have he1' : e = .returned (.bool r1) := he1
    clear he1
    subst he1'
    have b1' := b1.below hb1 b1.lt
    have b2' := b2.below hb1 b2.lt
    have c1 := b1'.cell 0
    have c2 := b2'.cell 0
    have f1 := b1'.frozen 0
    have f2 := b2'.frozen 0
    simp at c1 c2
    have hr := Lib.hid (And.intro (((b3.trans (hb1.mono b3.size)).setCell (p := ⟨w.heap.size, 0, none⟩) (Nat.le_refl _) (.bool r1)).setCell (p := ⟨w.heap.size + 1, 0, none⟩) (by simp) (.int .i64 0)) (And.intro ((b1'.set_ 0 (.bool r1)).far (p := ⟨w.heap.size + 1, 0, none⟩) (by simp) (.int .i64 0)) ((b2'.far (p := ⟨w.heap.size, 0, none⟩) (by simp) (.bool r1)).set_ 0 (.int .i64 0))))
    clear b1 b2 b3 hb1 b1' b2'
    go_wp2_with fail
    have d1 := hr.out.2.1.cell 0
    have d2 := hr.out.2.2.cell 0
    have hb := hr.out.1
    simp only [List.set_toArray, Array.setIfInBounds] at d1 d2
    generalize (w1.setCell _ _).setCell _ _ = W2 at *
    refine leaves_cons (f := 88) (args := #[.pointer (some ⟨w.heap.size, 0, none⟩), .pointer (some ⟨w.heap.size + 1, 0, none⟩)]) (by simp) (by simp [go_sem]) ?_
    refine (cmp_idle ⟨w.heap.size, 0, none⟩ ⟨w.heap.size + 1, 0, none⟩ _).mono ?_
    rintro e u' w'' ⟨rfl, rfl, rfl⟩
    clear hr
    simp at d1 d2
    simp [Leaves, settle, results, Tryz.results45, go_sem, d1, d2]
    exact ⟨rfl, hb⟩
  · go_enter_defers Tryz.func45, Tryz.ntmps45
    go_wp2_with fail
    obtain ⟨b1, b2, b3⟩ := HW.out _ rfl
    clear HW
    generalize (w.alloc _).alloc _ = W at *
    refine (HF.out W b3).mono ?_
    rintro e w1 ⟨hb1, he1⟩
    have he1' : e = .panicked (errChain u) := he1
    clear he1
    subst he1'
    have b1' := b1.below hb1 b1.lt
    have b2' := b2.below hb1 b2.lt
    have c1 := b1'.cell 0
    have c2 := b2'.cell 0
    have f1 := b1'.frozen 0
    have f2 := b2'.frozen 0
    have hs1 := Hs.out.below (b3.trans (hb1.mono b3.size))
    simp at c1 c2
    have hr := Lib.hid (And.intro (((b3.trans (hb1.mono b3.size)).setCell (p := ⟨w.heap.size, 0, none⟩) (Nat.le_refl _) (.bool false)).setCell (p := ⟨w.heap.size + 1, 0, none⟩) (by simp) (.int .i64 10)) (And.intro ((b1'.set_ 0 (.bool false)).far (p := ⟨w.heap.size + 1, 0, none⟩) (by simp) (.int .i64 10)) ((b2'.far (p := ⟨w.heap.size, 0, none⟩) (by simp) (.bool false)).set_ 0 (.int .i64 10))))
    clear b1 b2 b3 hb1 b1' b2'
    refine leaves_cons (f := 88) (args := #[.pointer (some ⟨w.heap.size, 0, none⟩), .pointer (some ⟨w.heap.size + 1, 0, none⟩)]) (by simp) (by simp [go_sem]) ?_
    refine (cmp_panicking ⟨w.heap.size, 0, none⟩ ⟨w.heap.size + 1, 0, none⟩ false 0 u [] w1 c1 f1 c2 f2 (by simp) hs1).mono ?_
    rintro e u' w'' ⟨rfl, rfl, rfl⟩
    have d1 := hr.out.2.1.cell 0
    have d2 := hr.out.2.2.cell 0
    have hb := hr.out.1
    generalize (w1.setCell _ _).setCell _ _ = W2 at *
    clear hr
    simp at d1 d2
    simp [Leaves, settle, results, Tryz.results45, go_sem, d1, d2]
    exact ⟨rfl, hb⟩
end Go.Proofs.YtbhmeapnmpgggaaGreatDoor
