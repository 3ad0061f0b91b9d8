/- errs.Is's outer closure: the walk. Conditions: both errors lie in the world and are right; the sentinel's variable holds a pointer; of two held data the callee's contract is given. -/
import Derived.Test.YtbhmeapnmpgggaaGreatDoorIs2
namespace Go.Proofs.YtbhmeapnmpgggaaGreatDoor
open Go.RowKit

theorem EVn.new {B : Nat} {w : World} {e : E} {v : Value} (hv : EV B w e v) : EVn [w.heap.size] w e v := by
  refine ⟨hv.mono (Nat.zero_le _), fun g hg hm => ?_⟩
  have hg2 : g = w.heap.size := by simpa using hm
  unfold EV at hv
  rcases hv with ⟨a, rfl⟩ | ⟨a, g', b, rfl, d⟩ | ⟨a, g', b, rfl, d⟩ | ⟨a, g', b, rfl, d⟩ | ⟨a, g', b, rfl, d⟩ | ⟨a, rfl⟩ | ⟨a, rfl⟩ | ⟨a, g', b, rfl, d⟩ | ⟨a, g', b, rfl, d⟩ | ⟨a, rfl⟩ | ⟨a, rfl⟩ <;> simp [evBlock, ptrBlock] at hg <;> (have := d.lt; omega)
/-- what Is computes, of errors that are not nil: found, and whether it panics -/
def E.isr (bq : D → D → Bool × Bool) (e t : E) : Bool × Bool := ((e.walk (stIs bq t) [] false).1, decide (2 ≤ (e.walk (stIs bq t) [] false).2))

set_option maxHeartbeats 2000000 in
set_option maxRecDepth 100000 in
theorem is1_any (bq : D → D → Bool × Bool) (u : Addr) (e t : E) (v tv : Value) (g0 gt gv : Nat) (w : World) (he : e.In w) (ht : t.In w) (her : e.right = true) (htr : t.right = true) (ht0 : t.k ≠ 0) (hes : e.size ≤ 4096)
    (hv : EV 0 w e v) (hvt : EV 0 w t tv) (hs : Sen u w) (b0 : Blk w g0 68 #[v]) (bt : Blk w gt 29 t.cs.toArray) (bv : Blk w gv 68 #[tv]) (hD : t.k = 5 → DEq bq) :
    Calls Tryz.prog 55 #[.pointer (some ⟨g0, 0, none⟩), .pointer (some ⟨gt, 0, none⟩), .pointer (some ⟨gv, 0, none⟩)] w (EqGoes u (e.isr bq t) w) := by
  have hal := (Below.refl w.heap.size w).alloc (Nat.le_refl _) (.cells #[.bool false] 4)
  have h0 : 0 < w.heap.size := lt_of_cell hs
  have hDo : Doer (stIs bq t) (PIs u t gt w.heap.size gv tv) [w.heap.size] w.heap.size (w.heap.size + 1) 57 #[.pointer (some ⟨gt, 0, none⟩), .pointer (some ⟨w.heap.size, 0, none⟩), .pointer (some ⟨gv, 0, none⟩)] (errChain u) :=
    { hbs := by simp
      hB := by omega
      stays := fun s w1 w2 h hb => h.below hb
      enters := fun _ _ => by kernel_rfl
      does := fun s x way vx ao c w1 hp hx hlx hrx hx0 hvx _ _ => isDo_any htr ht0 ht.lo (Nat.ne_of_lt bt.lt) (Nat.ne_of_lt bv.lt) h0 hD s x way vx ao c w1 hp hx hlx hrx hx0 hvx }
  have hP : PIs u t gt w.heap.size gv tv false (w.alloc (.cells #[.bool false] 4)) := ⟨Blk.new _ _ _, bt.alloc _, bv.alloc _, (EVn.new hvt).below hal, ht.below hal, hs.below hal⟩
  have hwalk := walk_any hDo e.size e [] none 0 false v _ (Nat.le_refl _) (by simpa using hes) (he.below hal) he.lo her hP ((EVn.new hv).below hal) ⟨by simp, by simp, by simp, by simp, by simp, fun q x h => by simp at h⟩ (by simp)
  have hc0 := (b0.alloc (.cells #[.bool false] 4)).cell 0
  simp at hc0
  have hcv : v.cells = #[v] := hv.cells
  unfold Value.cells at hcv
  unfold E.isr
  generalize e.walk (stIs bq t) [] false = r at *
  have Hw := Lib.hid hwalk
  have Hal := Lib.hid hal
  clear hwalk hDo hP hal he ht her htr ht0 hes hv hvt hs b0 bt bv hD
  obtain ⟨s, m⟩ := r
  have hfin : ∀ w', Kept [w.heap.size] (w.alloc (.cells #[.bool false] 4)) w' → Below w.heap.size w w' := fun w' h => Hal.out.trans (h.below (by simp) (by simp))
  have Hf := Lib.hid hfin
  clear hfin
  rcases m with _ | _ | m
  · go_enter Tryz.func55, Tryz.ntmps55
    go_wp2_with fail
    refine Hw.out.mono ?_
    rintro en w1 ⟨hk, he1, hp⟩
    have he1' : en = .returned (.bool true) := he1
    clear he1
    subst he1'
    have c1 := hp.bf.cell 0
    simp at c1
    have hr := Lib.hid (Hf.out _ hk)
    clear hk hp Hw
    go_wp2_with fail
    go_ret
    exact ⟨hr.out, rfl⟩
  · go_enter Tryz.func55, Tryz.ntmps55
    go_wp2_with fail
    refine Hw.out.mono ?_
    rintro en w1 ⟨hk, he1, hp⟩
    have he1' : en = .returned (.bool false) := he1
    clear he1
    subst he1'
    have c1 := hp.bf.cell 0
    simp at c1
    have hr := Lib.hid (Hf.out _ hk)
    clear hk hp Hw
    go_wp2_with fail
    go_ret
    exact ⟨hr.out, rfl⟩
  · go_enter Tryz.func55, Tryz.ntmps55
    go_wp2_with fail
    refine Hw.out.mono ?_
    rintro en w1 ⟨hk, he1, hp⟩
    have he1' : en = .panicked (errChain u) := he1
    clear he1
    subst he1'
    refine ⟨rfl, Hf.out _ hk, ?_⟩
    rw [if_pos]
    simp
end Go.Proofs.YtbhmeapnmpgggaaGreatDoor
