/- errs.Equal: the walk. Conditions: both errors lie in the world and are right; the sentinel's variable holds a pointer. -/
import Derived.Test.YtbhmeapnmpgggaaGreatDoorIs4
import Derived.Test.YtbhmeapnmpgggaaGreatDoorDatumEqW
namespace Go.Proofs.YtbhmeapnmpgggaaGreatDoor
open Go.RowKit

theorem dEq : DEq D.req := fun x y w hx hy ox oy => datumEq_any x y w hx hy ox oy

set_option maxHeartbeats 2000000 in
set_option maxRecDepth 100000 in
theorem eqClosure (u : Addr) (e t : E) (ga gb : Nat) (w : World) (he : e.In w) (ht : t.In w) (her : e.right = true) (htr : t.right = true) (hs : Sen u w) (ba : Blk w ga 29 e.cs.toArray) (bb : Blk w gb 29 t.cs.toArray) :
    Calls Tryz.prog 46 #[.pointer (some ⟨ga, 0, none⟩), .pointer (some ⟨gb, 0, none⟩)] w (EqGoes u (E.eqr D.req e t) w) := by
  have hE := equalE_any D.req u e t w he ht hs (fun h1 h2 w2 hb2 => datumEq_any _ _ _ (he.bod.below hb2) (ht.bod.below hb2) (E.fit_body (E.right_fit her) h1) (E.fit_body (E.right_fit htr) h2))
  have HE := Lib.hid hE
  have uE := Tryz.underlying29
  have sE : (Tryz.prog.info? 29).map (·.size) = some 11 := by kernel_rfl
  unfold Blk at ba bb
  clear hE he ht her htr hs
  have tok : True := trivial
  generalize E.eqr D.req e t = r at *
  obtain ⟨r1, r2⟩ := r
  cases r2
  · go_enter Tryz.func46, Tryz.ntmps46
    go_wp2_with (first
      | (have _t := tok; refine wpList_load_row (o := ⟨some 3, _, _, _, _, _⟩) rfl 29 _ rfl ga rfl _ _ _ _ ba uE rfl sE ?_; clear tok)
      | (refine wpList_load_row (o := ⟨some 4, _, _, _, _, _⟩) rfl 29 _ rfl gb rfl _ _ _ _ bb uE rfl sE ?_))
    refine HE.out.mono ?_
    rintro en w1 ⟨hb, he⟩
    have he' : en = .returned (.bool r1) := he
    clear he
    subst he'
    have hf := Lib.hid hb
    clear hb HE ba bb
    go_wp2_with fail
    go_ret
    exact ⟨hf.out, rfl⟩
  · go_enter Tryz.func46, Tryz.ntmps46
    go_wp2_with (first
      | (have _t := tok; refine wpList_load_row (o := ⟨some 3, _, _, _, _, _⟩) rfl 29 _ rfl ga rfl _ _ _ _ ba uE rfl sE ?_; clear tok)
      | (refine wpList_load_row (o := ⟨some 4, _, _, _, _, _⟩) rfl 29 _ rfl gb rfl _ _ _ _ bb uE rfl sE ?_))
    refine HE.out.mono ?_
    rintro en w1 ⟨hb, he⟩
    have he' : en = .panicked (errChain u) := he
    clear he
    subst he'
    exact ⟨rfl, hb, rfl⟩

set_option maxHeartbeats 2000000 in
set_option maxRecDepth 100000 in
theorem errEqual_any (u : Addr) (e t : E) (w : World) (he : e.In w) (ht : t.In w) (her : e.right = true) (htr : t.right = true) (hs : Sen u w) :
    Calls Tryz.prog 13 #[e.v, t.v] w (CmpGoes u (E.eqr D.req e t) w) := by
  have hmf : ∀ (fn : Fn) (first cap : Array Value) (w : World), (Instr.makeFunc fn first cap).run Tryz.prog w = .ok (.func fn first cap) w := fun _ _ _ _ => rfl
  have hW : ∀ W, W = ((w.alloc (.cells e.cs.toArray 29)).alloc (.cells t.cs.toArray 29)) → Calls Tryz.prog 45 #[.func (.func 46) #[] #[.pointer (some ⟨w.heap.size, 0, none⟩), .pointer (some ⟨w.heap.size + 1, 0, none⟩)]] W (CmpGoes u (E.eqr D.req e t) W) ∧ Below w.heap.size w W := fun W h => by
    subst h
    have b1 := (Blk.new w 29 e.cs.toArray).alloc (.cells t.cs.toArray 29)
    have b2 := Blk.new' (w := w.alloc (.cells e.cs.toArray 29)) (g := w.heap.size + 1) (by simp) 29 t.cs.toArray
    have b3 : Below w.heap.size w ((w.alloc (.cells e.cs.toArray 29)).alloc (.cells t.cs.toArray 29)) := ((Below.refl _ _).alloc (Nat.le_refl _) _).alloc (by simp) _
    exact ⟨compared_any u _ 46 _ _ (hs.below b3) (fun _ _ => by kernel_rfl) (fun w' hb => eqClosure u e t _ _ w' ((he.below b3).below hb) ((ht.below b3).below hb) her htr ((hs.below b3).below hb) (b1.to hb) (b2.to hb)), b3⟩
  have HW := Lib.hid hW
  clear hW he ht her htr hs
  simp only [E.v, E.cs] at HW ⊢
  generalize E.eqr D.req e t = r at *
  obtain ⟨r1, r2⟩ := r
  go_enter Tryz.func13, Tryz.ntmps13
  go_wp2_with fail
  obtain ⟨hc, hb0⟩ := HW.out _ rfl
  clear HW
  generalize (w.alloc _).alloc _ = W at *
  refine hc.mono ?_
  rintro en w1 ⟨rfl, hb⟩
  have hf := Lib.hid (hb0.trans (hb.mono hb0.size))
  clear hb hb0 hc
  cases r2
  · go_wp2_with fail
    go_ret2
    exact ⟨rfl, hf.out⟩
  · go_wp2_with fail
    go_ret2
    exact ⟨rfl, hf.out⟩
end Go.Proofs.YtbhmeapnmpgggaaGreatDoor
