/- errs.Is: the walk. Conditions: both errors lie in the world and are right; the sentinel's variable holds a pointer; of two held data the callee's contract is given. -/
import Derived.Test.YtbhmeapnmpgggaaGreatDoorIs3
import Derived.Test.YtbhmeapnmpgggaaGreatDoorCompared
import Derived.Test.YtbhmeapnmpgggaaGreatDoorReg
namespace Go.Proofs.YtbhmeapnmpgggaaGreatDoor
open Go.RowKit

theorem Blk.set1 {w : World} {g : Nat} {t : TypeId} {x : Value} (u : Value) (h : Blk w g t #[x]) : Blk (w.setCell ⟨g, 0, none⟩ u) g t #[u] := by have := h.set_ 0 u; simpa using this
theorem Blk.farT {w : World} {g g' : Nat} {t t' : TypeId} {cs cs' : Array Value} (h : Blk w g t cs) (h' : Blk w g' t' cs') (hne : t ≠ t') (u : Value) : Blk (w.setCell ⟨g', 0, none⟩ u) g t cs :=
  h.far (fun e => by simp at e; subst e; unfold Blk at h h'; rw [h] at h'; simp at h'; exact hne h'.2) u
theorem Blk.to {w w' : World} (hb : Below w.heap.size w w') {g : Nat} {t : TypeId} {cs : Array Value} (h : Blk w g t cs) : Blk w' g t cs := h.below hb h.lt
theorem EV.store {B : Nat} {w : World} {e : E} {v : Value} (hv : EV B w e v) {g : Nat} {x : Value} (h : Blk w g 68 #[x]) (u : Value) : EV B (w.setCell ⟨g, 0, none⟩ u) e v :=
  hv.turn fun _ _ _ _ hne hb => hb.farT h hne u

/-- what stands in the slots of the first region of Is -/
def IsI (W : World) (e t : E) (done : Nat → Bool) (x6 x7 x8 x9 x10 x11 : Value) (w : World) : Prop :=
  Below W.heap.size W w ∧ (done 0 = true → x8 = e.v) ∧ (done 2 = true → x10 = t.v) ∧ (done 1 = true → EV 0 w e x9) ∧ (done 3 = true → EV 0 w t x11) ∧
  (done 4 = true → ∃ g, W.heap.size ≤ g ∧ x6 = .pointer (some ⟨g, 0, none⟩) ∧ Blk w g 68 #[if done 6 then x9 else .nilIface]) ∧
  (done 5 = true → ∃ g, W.heap.size ≤ g ∧ x7 = .pointer (some ⟨g, 0, none⟩) ∧ Blk w g 68 #[if done 7 then x11 else .nilIface]) ∧ (done 4 = true → done 5 = true → x6 ≠ x7) ∧ (done 6 = true → done 1 = true ∧ done 4 = true) ∧ (done 7 = true → done 3 = true ∧ done 5 = true)

theorem IsI.grow {W : World} {e t : E} {done : Nat → Bool} {x6 x7 x8 x9 x10 x11 : Value} {w w' : World} (h : IsI W e t done x6 x7 x8 x9 x10 x11 w) (hb : Below w.heap.size w w') : IsI W e t done x6 x7 x8 x9 x10 x11 w' := by
  obtain ⟨i0, i1, i2, i3, i4, i5, i6, i7, i8, i9⟩ := h
  refine ⟨i0.trans (hb.mono i0.size), i1, i2, fun h => (i3 h).below hb, fun h => (i4 h).below hb, fun h => ?_, fun h => ?_, i7, i8, i9⟩
  · obtain ⟨g, h1, h2, h3⟩ := i5 h; exact ⟨g, h1, h2, h3.to hb⟩
  · obtain ⟨g, h1, h2, h3⟩ := i6 h; exact ⟨g, h1, h2, h3.to hb⟩

/-- what Is is: found, and whether it panics -/
def E.isR (bq : D → D → Bool × Bool) (e t : E) : Bool × Bool := if e.k = 0 ∨ t.k = 0 then (decide (e.k = 0) && decide (t.k = 0), false) else e.isr bq t

set_option maxHeartbeats 4000000 in
set_option maxRecDepth 100000 in
theorem isE_any (bq : D → D → Bool × Bool) (u : Addr) (e t : E) (w : World) (he : e.In w) (ht : t.In w) (her : e.right = true) (htr : t.right = true) (hes : e.size ≤ 4096) (hs : Sen u w) (hD : t.k = 5 → DEq bq) :
    Calls Tryz.prog 17 #[e.v, t.v] w (CmpGoes u (E.isR bq e t) w) := by
  have H0 := Lib.hid (And.intro he (And.intro ht (And.intro her (And.intro htr (And.intro hes (And.intro hs hD))))))
  clear he ht her htr hes hs hD
  have hv1 := Lib.hid (fun w => valueE_any e w)
  have hv2 := Lib.hid (fun w => valueE_any t w)
  have hW : ∀ W, W = ((w.alloc (.cells e.cs.toArray 29)).alloc (.cells t.cs.toArray 29)) → Blk W w.heap.size 29 e.cs.toArray ∧ Blk W (w.heap.size + 1) 29 t.cs.toArray ∧ Below w.heap.size w W := fun W h => by
    subst h
    exact ⟨(Blk.new _ _ _).alloc _, Blk.new' (by simp) _ _, ((Below.refl _ _).alloc (Nat.le_refl _) _).alloc (by simp) _⟩
  have HW := Lib.hid hW
  clear hW
  unfold ValueE at hv1 hv2
  simp only [E.v, E.cs] at HW hv1 hv2 ⊢
  go_enter Tryz.func17, Tryz.ntmps17
  go_upto_region 1 with fail
  obtain ⟨b1, b2, b3⟩ := HW.out _ rfl
  clear HW
  generalize (w.alloc _).alloc _ = W at *
  refine wp_region_each (by kernel_rfl) (by kernel_rfl) (fun done a w' => ∃ x6 x7 x8 x9 x10 x11, a = ⟨#[e.v, t.v, .pointer (some ⟨w.heap.size, 0, none⟩), .pointer (some ⟨w.heap.size + 1, 0, none⟩), .bool false, .int .i64 0, x6, x7, x8, x9, x10, x11, undef, undef, undef, undef, undef, undef, undef, undef, undef, undef, undef, undef, undef, undef, undef, undef], []⟩ ∧ IsI W e t done x6 x7 x8 x9 x10 x11 w') ?_ ?_ ?_
  · exact ⟨undef, undef, undef, undef, undef, undef, rfl, (Below.refl _ _).drew, by simp, by simp, by simp, by simp, by simp, by simp, by simp, by simp, by simp⟩
  · have uE := Tryz.underlying29
    have sE : (Tryz.prog.info? 29).map (·.size) = some 11 := by kernel_rfl
    have B1 := Lib.hid b1
    have B2 := Lib.hid b2
    clear b1 b2 b3
    refine ⟨?_, ?_, ?_, ?_, ?_, ?_, ?_, ?_, trivial⟩
    · rintro done a wx hd he ⟨x6, x7, x8, x9, x10, x11, rfl, hI⟩ K hK
      obtain ⟨i0, i1, i2, i3, i4, i5, i6, i7, i8, i9⟩ := hI
      refine step_wp rfl (wp_load_row 29 _ rfl w.heap.size rfl _ _ _ _ (B1.out.below i0 B1.out.lt) uE rfl sE ?_)
      refine hK _ _ ⟨x6, x7, e.v, x9, x10, x11, rfl, ?_⟩
      exact ⟨i0, fun _ => rfl, i2, i3, i4, i5, i6, i7, i8, i9⟩
    · rintro done a wx hd he ⟨x6, x7, x8, x9, x10, x11, rfl, hI⟩ K hK
      obtain ⟨i0, i1, i2, i3, i4, i5, i6, i7, i8, i9⟩ := hI
      simp [Region.binds] at he
      obtain rfl := i1 he
      refine step_wp rfl (wp_call (f := 54) (args := #[e.v]) (by kernel_rfl) (hv1.out wx) ?_)
      rintro en w1 ⟨v, rfl, hev, hb⟩
      obtain ⟨i0, i1, i2, i3, i4, i5, i6, i7, i8, i9⟩ := IsI.grow ⟨i0, i1, i2, i3, i4, i5, i6, i7, i8, i9⟩ hb
      refine ⟨v, rfl, hK _ _ ⟨x6, x7, _, v, x10, x11, rfl, ?_⟩⟩
      have h6 : done 6 = false := by
        cases h : done 6
        · rfl
        · exact absurd ((i8 h).1.symm.trans hd) (by simp)
      refine ⟨i0, fun _ => rfl, i2, fun _ => hev.mono (Nat.zero_le _), i4, fun h => ?_, i6, i7, fun h => ⟨rfl, (i8 h).2⟩, i9⟩
      obtain ⟨g, h1, h2, h3⟩ := i5 h
      refine ⟨g, h1, h2, ?_⟩
      simp [h6] at h3 ⊢
      exact h3
    · rintro done a wx hd he ⟨x6, x7, x8, x9, x10, x11, rfl, hI⟩ K hK
      obtain ⟨i0, i1, i2, i3, i4, i5, i6, i7, i8, i9⟩ := hI
      refine step_wp rfl (wp_load_row 29 _ rfl (w.heap.size + 1) rfl _ _ _ _ (B2.out.below i0 B2.out.lt) uE rfl sE ?_)
      refine hK _ _ ⟨x6, x7, x8, x9, t.v, x11, rfl, ?_⟩
      exact ⟨i0, i1, fun _ => rfl, i3, i4, i5, i6, i7, i8, i9⟩
    · rintro done a wx hd he ⟨x6, x7, x8, x9, x10, x11, rfl, hI⟩ K hK
      obtain ⟨i0, i1, i2, i3, i4, i5, i6, i7, i8, i9⟩ := hI
      simp [Region.binds] at he
      obtain rfl := i2 he.1
      refine step_wp rfl (wp_call (f := 54) (args := #[t.v]) (by kernel_rfl) (hv2.out wx) ?_)
      rintro en w1 ⟨v, rfl, hev, hb⟩
      obtain ⟨i0, i1, i2, i3, i4, i5, i6, i7, i8, i9⟩ := IsI.grow ⟨i0, i1, i2, i3, i4, i5, i6, i7, i8, i9⟩ hb
      refine ⟨v, rfl, hK _ _ ⟨x6, x7, x8, x9, _, v, rfl, ?_⟩⟩
      have h7 : done 7 = false := by
        cases h : done 7
        · rfl
        · exact absurd ((i9 h).1.symm.trans hd) (by simp)
      refine ⟨i0, i1, fun _ => rfl, i3, fun _ => hev.mono (Nat.zero_le _), i5, fun h => ?_, i7, i8, fun h => ⟨rfl, (i9 h).2⟩⟩
      obtain ⟨g, h1, h2, h3⟩ := i6 h
      refine ⟨g, h1, h2, ?_⟩
      simp [h7] at h3 ⊢
      exact h3
    · rintro done a wx hd he ⟨x6, x7, x8, x9, x10, x11, rfl, hI⟩ K hK
      go_simp
      have hal := (Below.refl wx.heap.size wx).alloc (Nat.le_refl _) (.cells #[.nilIface] 68)
      have hz := hI.1.size
      have hlt : ∀ g, done 5 = true → x7 = .pointer (some ⟨g, 0, none⟩) → g < wx.heap.size := fun g h5 hx => by
        obtain ⟨g', _, h2, h3⟩ := hI.2.2.2.2.2.2.1 h5
        rw [hx] at h2; injection h2 with h2; injection h2 with h2; injection h2 with h2; subst h2; exact h3.lt
      obtain ⟨i0, i1, i2, i3, i4, i5, i6, i7, i8, i9⟩ := hI.grow hal
      have h6 : done 6 = false := by
        cases h : done 6
        · rfl
        · exact absurd ((i8 h).2.symm.trans hd) (by simp)
      refine hK _ _ ⟨_, x7, x8, x9, x10, x11, rfl, ?_⟩
      refine ⟨i0, i1, i2, i3, i4, fun _ => ⟨wx.heap.size, hz, rfl, ?_⟩, i6, fun _ h5 hx => ?_, fun h => ⟨(i8 h).1, rfl⟩, i9⟩
      · simp [h6]
        exact Blk.new _ _ _
      · have := hlt wx.heap.size h5 hx.symm
        omega
    · rintro done a wx hd he ⟨x6, x7, x8, x9, x10, x11, rfl, hI⟩ K hK
      go_simp
      have hal := (Below.refl wx.heap.size wx).alloc (Nat.le_refl _) (.cells #[.nilIface] 68)
      have hz := hI.1.size
      have hlt : ∀ g, done 4 = true → x6 = .pointer (some ⟨g, 0, none⟩) → g < wx.heap.size := fun g h5 hx => by
        obtain ⟨g', _, h2, h3⟩ := hI.2.2.2.2.2.1 h5
        rw [hx] at h2; injection h2 with h2; injection h2 with h2; injection h2 with h2; subst h2; exact h3.lt
      obtain ⟨i0, i1, i2, i3, i4, i5, i6, i7, i8, i9⟩ := hI.grow hal
      have h7 : done 7 = false := by
        cases h : done 7
        · rfl
        · exact absurd ((i9 h).2.symm.trans hd) (by simp)
      refine hK _ _ ⟨x6, _, x8, x9, x10, x11, rfl, ?_⟩
      refine ⟨i0, i1, i2, i3, i4, i5, fun _ => ⟨wx.heap.size, hz, rfl, ?_⟩, fun h4 _ hx => ?_, i8, fun h => ⟨(i9 h).1, rfl⟩⟩
      · simp [h7]
        exact Blk.new _ _ _
      · have := hlt wx.heap.size h4 hx
        omega
    · rintro done a wx hd he ⟨x6, x7, x8, x9, x10, x11, rfl, hI⟩ K hK
      obtain ⟨i0, i1, i2, i3, i4, i5, i6, i7, i8, i9⟩ := hI
      simp [Region.binds] at he
      obtain ⟨g, h1, rfl, h3⟩ := i5 he.1
      have hx9 := i3 he.2.1
      have hc := h3.cell 0
      have hf := h3.frozen 0
      have hone := hx9.one
      have hcv := hx9.cells
      unfold Value.cells at hcv
      have hst := fun a m w => run_store Tryz.prog w a x9 m hone
      simp at hc
      go_simp
      have hn : ∀ g', done 5 = true → x7 = .pointer (some ⟨g', 0, none⟩) → g' ≠ g := fun g' h5 hx hg => i7 he.1 h5 (by rw [hx, hg])
      refine hK _ _ ⟨_, x7, _, x9, _, x11, rfl, ?_⟩
      refine ⟨i0.setCell h1 _, fun _ => by first | rfl | exact i1 (by assumption), fun _ => by first | rfl | exact i2 (by assumption), fun h => (i3 h).store h3 _, fun h => (i4 h).store h3 _, fun _ => ⟨g, h1, rfl, ?_⟩, fun h => ?_, i7, fun h => ⟨he.2.1, he.1⟩, i9⟩
      · simp
        exact h3.set1 _
      · obtain ⟨g', k1, k2, k3⟩ := i6 h
        exact ⟨g', k1, k2, k3.far (hn g' h k2) _⟩
    · rintro done a wx hd he ⟨x6, x7, x8, x9, x10, x11, rfl, hI⟩ K hK
      obtain ⟨i0, i1, i2, i3, i4, i5, i6, i7, i8, i9⟩ := hI
      simp [Region.binds] at he
      obtain ⟨g, h1, rfl, h3⟩ := i6 he.1
      have hx9 := i4 he.2.1
      have hc := h3.cell 0
      have hf := h3.frozen 0
      have hone := hx9.one
      have hcv := hx9.cells
      unfold Value.cells at hcv
      have hst := fun a m w => run_store Tryz.prog w a x11 m hone
      simp at hc
      go_simp
      have hn : ∀ g', done 4 = true → x6 = .pointer (some ⟨g', 0, none⟩) → g' ≠ g := fun g' h5 hx hg => i7 h5 he.1 (by rw [hx, hg])
      refine hK _ _ ⟨x6, _, _, x9, _, x11, rfl, ?_⟩
      refine ⟨i0.setCell h1 _, fun _ => by first | rfl | exact i1 (by assumption), fun _ => by first | rfl | exact i2 (by assumption), fun h => (i3 h).store h3 _, fun h => (i4 h).store h3 _, fun h => ?_, fun _ => ⟨g, h1, rfl, ?_⟩, i7, i8, fun h => ⟨he.2.1, he.1⟩⟩
      · obtain ⟨g', k1, k2, k3⟩ := i5 h
        exact ⟨g', k1, k2, k3.far (hn g' h k2) _⟩
      · simp
        exact h3.set1 _
  · rintro done a wx hd ⟨x6, x7, x8, x9, x10, x11, rfl, hI⟩
    have dd : ∀ j, j < 8 → done j = true := fun j h => hd j (by simpa using h)
    obtain ⟨i0, i1, i2, i3, i4, i5, i6, i7, i8, i9⟩ := hI
    obtain ⟨ga, ha1, rfl, ha2⟩ := i5 (dd 4 (by omega))
    obtain ⟨gb, hb1, rfl, hb2⟩ := i6 (dd 5 (by omega))
    rw [dd 6 (by omega)] at ha2
    rw [dd 7 (by omega)] at hb2
    have ev := i3 (dd 1 (by omega))
    have tv := i4 (dd 3 (by omega))
    obtain rfl := i1 (dd 0 (by omega))
    obtain rfl := i2 (dd 2 (by omega))
    clear i1 i2 i3 i4 i5 i6 i7 i8 i9 dd hd
    simp at ha2 hb2
    have hbel := b3.trans (i0.mono b3.size)
    have hfin : ∀ r : Bool × Bool, r = E.isR bq e t → ∀ en w', CmpGoes u r wx en w' → CmpGoes u (E.isR bq e t) w en w' := fun r hr en w' h => by subst hr; exact ⟨h.1, hbel.trans (h.2.mono hbel.size)⟩
    have hnil : ∀ (b : Bool), (b, false) = E.isR bq e t → CmpGoes u (E.isR bq e t) w (.returned (.tuple #[.bool b, .int .i64 0])) wx := fun b h => by rw [← h]; exact ⟨rfl, hbel⟩
    have Hn := Lib.hid hnil
    have Hf := Lib.hid hfin
    have ca := ha2.cell 0
    have cb := hb2.cell 0
    have xcv := ev.cells
    have tcv := tv.cells
    have B3 := Lib.hid (b2.below i0 b2.lt)
    have Ha := Lib.hid (And.intro ha2 hb2)
    simp at ca cb
    unfold Value.cells at xcv tcv
    clear hnil hfin ha2 hb2 i0 b1 b2 b3 hv1 hv2
    by_cases h0 : e.k = 0
    · obtain rfl := ev.nil h0
      by_cases h1 : t.k = 0
      · obtain rfl := tv.nil h1
        have hq := Lib.hid (Hn.out true (by unfold E.isR; simp [h0, h1]))
        clear h0 h1 Hn Hf ev tv H0 hbel
        go_wp2_with fail
        go_ret2
        exact hq.out
      · obtain ⟨T2, y2, rfl⟩ := tv.iface h1 (E.right_ok H0.out.2.2.2.1)
        have hq := Lib.hid (Hn.out false (by unfold E.isR; simp [h0, h1]))
        clear h0 h1 Hn Hf ev tv H0 hbel
        go_wp2_with fail
        go_ret2
        exact hq.out
    · obtain ⟨T1, y1, rfl⟩ := ev.iface h0 (E.right_ok H0.out.2.2.1)
      by_cases h1 : t.k = 0
      · obtain rfl := tv.nil h1
        have hq := Lib.hid (Hn.out false (by unfold E.isR; simp [h0, h1]))
        clear h0 h1 Hn Hf ev tv H0 hbel
        go_wp2_with fail
        go_ret2
        exact hq.out
      · obtain ⟨T2, y2, rfl⟩ := tv.iface h1 (E.right_ok H0.out.2.2.2.1)
        have hr : e.isr bq t = E.isR bq e t := by unfold E.isR; rw [if_neg (by simp [h0, h1])]
        have hc := compared_any u (e.isr bq t) 55 #[.pointer (some ⟨ga, 0, none⟩), .pointer (some ⟨w.heap.size + 1, 0, none⟩), .pointer (some ⟨gb, 0, none⟩)] wx (H0.out.2.2.2.2.2.1.below hbel) (fun _ _ => by kernel_rfl)
          (fun w' hb => is1_any bq u e t _ _ ga (w.heap.size + 1) gb w' ((H0.out.1.below hbel).below hb) ((H0.out.2.1.below hbel).below hb) H0.out.2.2.1 H0.out.2.2.2.1 h1 H0.out.2.2.2.2.1 (ev.below hb) (tv.below hb) ((H0.out.2.2.2.2.2.1.below hbel).below hb) (Ha.out.1.to hb) (B3.out.to hb) (Ha.out.2.to hb) H0.out.2.2.2.2.2.2)
        have Hc := Lib.hid (hc.mono (Hf.out _ hr))
        clear h0 h1 Hn Hf ev tv H0 hbel hr hc
        go_wp2_with fail
        generalize E.isR bq e t = r at *
        obtain ⟨r1, r2⟩ := r
        refine Hc.out.mono ?_
        rintro en w' ⟨rfl, hb⟩
        have hq := Lib.hid hb
        clear hb Hc
        cases r2
        · go_wp2_with fail
          go_ret2
          exact ⟨rfl, hq.out⟩
        · go_wp2_with fail
          go_ret2
          exact ⟨rfl, hq.out⟩
end Go.Proofs.YtbhmeapnmpgggaaGreatDoor
