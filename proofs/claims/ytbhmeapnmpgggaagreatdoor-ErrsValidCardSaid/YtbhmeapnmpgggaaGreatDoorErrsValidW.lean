/- ErrsValid: the law's walk. Conditions: the tree lies in the world; the sentinel's variable holds a pointer. -/
import Derived.Test.YtbhmeapnmpgggaaGreatDoorAwakeE
import Derived.Test.YtbhmeapnmpgggaaGreatDoorHasE
namespace Go.Proofs.YtbhmeapnmpgggaaGreatDoor.errsValid
open Go.RowKit

set_option maxHeartbeats 2000000 in
set_option maxRecDepth 100000 in
theorem law (u : Addr) (d : E) (k f : Int) (w : World) (ha : d.In w) (hs : Sen u w) : Calls Tryz.prog 4 #[d.v, .int .i64 k, .int .i64 f] w (Ret (.bool true) w) := by
  have hv := E.valid_eq d
  obtain ⟨vv, hvv⟩ : ∃ vv, d.valid1 = vv := ⟨_, rfl⟩
  obtain ⟨hh, hhh⟩ : ∃ hh, hasE k f = hh := ⟨_, rfl⟩
  have h0 : Hid (∀ w, d.In w → Calls Tryz.prog 19 #[d.v] w (Ret (.bool vv) w)) := Lib.hid fun w h => by rw [← hvv, ← hv]; exact validE0_any d w h
  have h1 : Hid (∀ w, d.In w → Calls Tryz.prog 11 #[d.v] w (Ret (.bool vv) w)) := Lib.hid fun w h => by rw [← hvv]; exact validE1_any d w h
  have h2 : Hid (∀ w, Calls Tryz.prog 20 #[.int .i64 k, .int .i64 f] w (Ret (.bool hh) w)) := Lib.hid fun w => by rw [← hhh]; exact hasE0_any k f w
  have h3 : Hid (∀ w, Calls Tryz.prog 21 #[.int .i64 k, .int .i64 f] w (Ret (.bool hh) w)) := Lib.hid fun w => by rw [← hhh]; exact (hasE1_any k f w).mono fun e w' h => ⟨h.1, h.2 ▸ Below.refl _ _⟩
  have h4 := Lib.hid (fun w h => awakeE_any u w h)
  have Ha := Lib.hid ha
  have Hs0 := Lib.hid hs
  clear ha hs hv hvv hhh
  have hW : ∀ W, W = w.alloc (.cells d.cs.toArray 29) → Blk W w.heap.size 29 d.cs.toArray ∧ Below w.heap.size w W := fun W h => by
    subst h
    exact ⟨Blk.new _ _ _, (Below.refl _ _).alloc (Nat.le_refl _) _⟩
  have HW := Lib.hid hW
  clear hW
  have uE := Tryz.underlying29
  have sE : (Tryz.prog.info? 29).map (·.size) = some 11 := by kernel_rfl
  simp only [E.v, E.cs] at HW ⊢
  go_enter Tryz.func4, Tryz.ntmps4
  go_upto_region 1 with fail
  obtain ⟨b1, b2⟩ := HW.out _ rfl
  clear HW
  generalize w.alloc _ = W at *
  have Bx := Lib.hid b1
  have Hin := Lib.hid (Ha.out.below b2)
  have Hs := Lib.hid (Hs0.out.below b2)
  have Hb := Lib.hid b2
  clear b1 b2
  refine wp_region_each (by kernel_rfl) (by kernel_rfl) (fun done a w' => ∃ x6 x7 x8 x9 x10 x11 x12 x13 x14 x15 x16 x17 x18 x19 x20 x21 x22 x23, a = ⟨#[d.v, .int .i64 k, .int .i64 f, .pointer (some ⟨w.heap.size, 0, none⟩), undef, undef, x6, x7, x8, x9, x10, x11, x12, x13, x14, x15, x16, x17, x18, x19, x20, x21, x22, x23], []⟩ ∧ Below W.heap.size W w' ∧ (done 0 = true → x7 = d.v) ∧ (done 1 = true → x8 = .bool vv) ∧ (done 2 = true → x9 = d.v) ∧ (done 3 = true → x10 = .bool vv) ∧ (done 4 = true → x11 = .bool true) ∧ (done 5 = true → x12 = .bool true) ∧ (done 6 = true → x13 = .int .i64 k) ∧ (done 7 = true → x14 = .int .i64 f) ∧ (done 8 = true → x15 = .bool hh) ∧ (done 9 = true → x16 = .int .i64 k) ∧ (done 10 = true → x17 = .int .i64 f) ∧ (done 11 = true → x18 = .bool hh) ∧ (done 12 = true → x19 = .bool true) ∧ (done 13 = true → x20 = .bool true) ∧ (done 14 = true → x21 = .bool true) ∧ (done 15 = true → x22 = .bool true) ∧ (done 16 = true → x23 = .bool true) ∧ (done 17 = true → x6 = .bool true)) ?_ ?_ ?_
  · refine ⟨_, _, _, _, _, _, _, _, _, _, _, _, _, _, _, _, _, _, rfl, (Below.refl _ _).drew, ?_⟩
    simp
  · refine ⟨?_, ?_, ?_, ?_, ?_, ?_, ?_, ?_, ?_, ?_, ?_, ?_, ?_, ?_, ?_, ?_, ?_, ?_, trivial⟩
    · rintro done a wx hd he ⟨x6, x7, x8, x9, x10, x11, x12, x13, x14, x15, x16, x17, x18, x19, x20, x21, x22, x23, rfl, hB, i0, i1, i2, i3, i4, i5, i6, i7, i8, i9, i10, i11, i12, i13, i14, i15, i16, i17⟩ K hK
      refine step_wp rfl (wp_load_row 29 _ rfl w.heap.size rfl _ _ _ _ (Bx.out.to hB) uE rfl sE ?_)
      exact hK _ _ ⟨x6, _, x8, x9, x10, x11, x12, x13, x14, x15, x16, x17, x18, x19, x20, x21, x22, x23, rfl, hB, fun _ => rfl, i1, i2, i3, i4, i5, i6, i7, i8, i9, i10, i11, i12, i13, i14, i15, i16, i17⟩
    · rintro done a wx hd he ⟨x6, x7, x8, x9, x10, x11, x12, x13, x14, x15, x16, x17, x18, x19, x20, x21, x22, x23, rfl, hB, i0, i1, i2, i3, i4, i5, i6, i7, i8, i9, i10, i11, i12, i13, i14, i15, i16, i17⟩ K hK
      simp [Region.binds] at he
      obtain rfl := i0 (by simp [he])
      refine step_wp rfl (wp_call (f := 19) (args := #[d.v]) (by kernel_rfl) (h0.out wx (Hin.out.below hB)) ?_)
      rintro en w1 ⟨rfl, hb⟩
      exact ⟨_, rfl, hK _ _ ⟨x6, _, _, x9, x10, x11, x12, x13, x14, x15, x16, x17, x18, x19, x20, x21, x22, x23, rfl, hB.trans (hb.mono hB.size), fun _ => rfl, fun _ => rfl, i2, i3, i4, i5, i6, i7, i8, i9, i10, i11, i12, i13, i14, i15, i16, i17⟩⟩
    · rintro done a wx hd he ⟨x6, x7, x8, x9, x10, x11, x12, x13, x14, x15, x16, x17, x18, x19, x20, x21, x22, x23, rfl, hB, i0, i1, i2, i3, i4, i5, i6, i7, i8, i9, i10, i11, i12, i13, i14, i15, i16, i17⟩ K hK
      refine step_wp rfl (wp_load_row 29 _ rfl w.heap.size rfl _ _ _ _ (Bx.out.to hB) uE rfl sE ?_)
      exact hK _ _ ⟨x6, x7, x8, _, x10, x11, x12, x13, x14, x15, x16, x17, x18, x19, x20, x21, x22, x23, rfl, hB, i0, i1, fun _ => rfl, i3, i4, i5, i6, i7, i8, i9, i10, i11, i12, i13, i14, i15, i16, i17⟩
    · rintro done a wx hd he ⟨x6, x7, x8, x9, x10, x11, x12, x13, x14, x15, x16, x17, x18, x19, x20, x21, x22, x23, rfl, hB, i0, i1, i2, i3, i4, i5, i6, i7, i8, i9, i10, i11, i12, i13, i14, i15, i16, i17⟩ K hK
      simp [Region.binds] at he
      obtain rfl := i2 (by simp [he])
      refine step_wp rfl (wp_call (f := 11) (args := #[d.v]) (by kernel_rfl) (h1.out wx (Hin.out.below hB)) ?_)
      rintro en w1 ⟨rfl, hb⟩
      exact ⟨_, rfl, hK _ _ ⟨x6, x7, x8, _, _, x11, x12, x13, x14, x15, x16, x17, x18, x19, x20, x21, x22, x23, rfl, hB.trans (hb.mono hB.size), i0, i1, fun _ => rfl, fun _ => rfl, i4, i5, i6, i7, i8, i9, i10, i11, i12, i13, i14, i15, i16, i17⟩⟩
    · rintro done a wx hd he ⟨x6, x7, x8, x9, x10, x11, x12, x13, x14, x15, x16, x17, x18, x19, x20, x21, x22, x23, rfl, hB, i0, i1, i2, i3, i4, i5, i6, i7, i8, i9, i10, i11, i12, i13, i14, i15, i16, i17⟩ K hK
      simp [Region.binds] at he
      obtain rfl := i1 (by simp [he])
      obtain rfl := i3 (by simp [he])
      refine step_wp rfl (wp_value (.bool true) (by cases vv <;> kernel_rfl) ?_)
      exact hK _ _ ⟨x6, x7, _, x9, _, _, x12, x13, x14, x15, x16, x17, x18, x19, x20, x21, x22, x23, rfl, hB, i0, fun _ => rfl, i2, fun _ => rfl, fun _ => rfl, i5, i6, i7, i8, i9, i10, i11, i12, i13, i14, i15, i16, i17⟩
    · rintro done a wx hd he ⟨x6, x7, x8, x9, x10, x11, x12, x13, x14, x15, x16, x17, x18, x19, x20, x21, x22, x23, rfl, hB, i0, i1, i2, i3, i4, i5, i6, i7, i8, i9, i10, i11, i12, i13, i14, i15, i16, i17⟩ K hK
      simp [Region.binds] at he
      obtain rfl := i4 (by simp [he])
      refine step_wp rfl (wp_value (.bool true) (by kernel_rfl) ?_)
      exact hK _ _ ⟨x6, x7, x8, x9, x10, _, _, x13, x14, x15, x16, x17, x18, x19, x20, x21, x22, x23, rfl, hB, i0, i1, i2, i3, fun _ => rfl, fun _ => rfl, i6, i7, i8, i9, i10, i11, i12, i13, i14, i15, i16, i17⟩
    · rintro done a wx hd he ⟨x6, x7, x8, x9, x10, x11, x12, x13, x14, x15, x16, x17, x18, x19, x20, x21, x22, x23, rfl, hB, i0, i1, i2, i3, i4, i5, i6, i7, i8, i9, i10, i11, i12, i13, i14, i15, i16, i17⟩ K hK
      simp [Region.binds] at he
      obtain rfl := i5 (by simp [he])
      refine step_wpG (by kernel_rfl) (wp_value (.int .i64 k) (by kernel_rfl) ?_)
      exact hK _ _ ⟨x6, x7, x8, x9, x10, x11, _, _, x14, x15, x16, x17, x18, x19, x20, x21, x22, x23, rfl, hB, i0, i1, i2, i3, i4, fun _ => rfl, fun _ => rfl, i7, i8, i9, i10, i11, i12, i13, i14, i15, i16, i17⟩
    · rintro done a wx hd he ⟨x6, x7, x8, x9, x10, x11, x12, x13, x14, x15, x16, x17, x18, x19, x20, x21, x22, x23, rfl, hB, i0, i1, i2, i3, i4, i5, i6, i7, i8, i9, i10, i11, i12, i13, i14, i15, i16, i17⟩ K hK
      simp [Region.binds] at he
      obtain rfl := i5 (by simp [he])
      refine step_wpG (by kernel_rfl) (wp_value (.int .i64 f) (by kernel_rfl) ?_)
      exact hK _ _ ⟨x6, x7, x8, x9, x10, x11, _, x13, _, x15, x16, x17, x18, x19, x20, x21, x22, x23, rfl, hB, i0, i1, i2, i3, i4, fun _ => rfl, i6, fun _ => rfl, i8, i9, i10, i11, i12, i13, i14, i15, i16, i17⟩
    · rintro done a wx hd he ⟨x6, x7, x8, x9, x10, x11, x12, x13, x14, x15, x16, x17, x18, x19, x20, x21, x22, x23, rfl, hB, i0, i1, i2, i3, i4, i5, i6, i7, i8, i9, i10, i11, i12, i13, i14, i15, i16, i17⟩ K hK
      simp [Region.binds] at he
      obtain rfl := i5 (by simp [he])
      obtain rfl := i6 (by simp [he])
      obtain rfl := i7 (by simp [he])
      refine step_wpG (by kernel_rfl) (wp_call (f := 20) (args := #[.int .i64 k, .int .i64 f]) (by kernel_rfl) (h2.out wx) ?_)
      rintro en w1 ⟨rfl, hb⟩
      exact ⟨_, rfl, hK _ _ ⟨x6, x7, x8, x9, x10, x11, _, _, _, _, x16, x17, x18, x19, x20, x21, x22, x23, rfl, hB.trans (hb.mono hB.size), i0, i1, i2, i3, i4, fun _ => rfl, fun _ => rfl, fun _ => rfl, fun _ => rfl, i9, i10, i11, i12, i13, i14, i15, i16, i17⟩⟩
    · rintro done a wx hd he ⟨x6, x7, x8, x9, x10, x11, x12, x13, x14, x15, x16, x17, x18, x19, x20, x21, x22, x23, rfl, hB, i0, i1, i2, i3, i4, i5, i6, i7, i8, i9, i10, i11, i12, i13, i14, i15, i16, i17⟩ K hK
      simp [Region.binds] at he
      obtain rfl := i5 (by simp [he])
      refine step_wpG (by kernel_rfl) (wp_value (.int .i64 k) (by kernel_rfl) ?_)
      exact hK _ _ ⟨x6, x7, x8, x9, x10, x11, _, x13, x14, x15, _, x17, x18, x19, x20, x21, x22, x23, rfl, hB, i0, i1, i2, i3, i4, fun _ => rfl, i6, i7, i8, fun _ => rfl, i10, i11, i12, i13, i14, i15, i16, i17⟩
    · rintro done a wx hd he ⟨x6, x7, x8, x9, x10, x11, x12, x13, x14, x15, x16, x17, x18, x19, x20, x21, x22, x23, rfl, hB, i0, i1, i2, i3, i4, i5, i6, i7, i8, i9, i10, i11, i12, i13, i14, i15, i16, i17⟩ K hK
      simp [Region.binds] at he
      obtain rfl := i5 (by simp [he])
      refine step_wpG (by kernel_rfl) (wp_value (.int .i64 f) (by kernel_rfl) ?_)
      exact hK _ _ ⟨x6, x7, x8, x9, x10, x11, _, x13, x14, x15, x16, _, x18, x19, x20, x21, x22, x23, rfl, hB, i0, i1, i2, i3, i4, fun _ => rfl, i6, i7, i8, i9, fun _ => rfl, i11, i12, i13, i14, i15, i16, i17⟩
    · rintro done a wx hd he ⟨x6, x7, x8, x9, x10, x11, x12, x13, x14, x15, x16, x17, x18, x19, x20, x21, x22, x23, rfl, hB, i0, i1, i2, i3, i4, i5, i6, i7, i8, i9, i10, i11, i12, i13, i14, i15, i16, i17⟩ K hK
      simp [Region.binds] at he
      obtain rfl := i5 (by simp [he])
      obtain rfl := i9 (by simp [he])
      obtain rfl := i10 (by simp [he])
      refine step_wpG (by kernel_rfl) (wp_call (f := 21) (args := #[.int .i64 k, .int .i64 f]) (by kernel_rfl) (h3.out wx) ?_)
      rintro en w1 ⟨rfl, hb⟩
      exact ⟨_, rfl, hK _ _ ⟨x6, x7, x8, x9, x10, x11, _, x13, x14, x15, _, _, _, x19, x20, x21, x22, x23, rfl, hB.trans (hb.mono hB.size), i0, i1, i2, i3, i4, fun _ => rfl, i6, i7, i8, fun _ => rfl, fun _ => rfl, fun _ => rfl, i12, i13, i14, i15, i16, i17⟩⟩
    · rintro done a wx hd he ⟨x6, x7, x8, x9, x10, x11, x12, x13, x14, x15, x16, x17, x18, x19, x20, x21, x22, x23, rfl, hB, i0, i1, i2, i3, i4, i5, i6, i7, i8, i9, i10, i11, i12, i13, i14, i15, i16, i17⟩ K hK
      simp [Region.binds] at he
      obtain rfl := i5 (by simp [he])
      obtain rfl := i8 (by simp [he])
      obtain rfl := i11 (by simp [he])
      refine step_wpG (by kernel_rfl) (wp_value (.bool true) (by cases hh <;> kernel_rfl) ?_)
      exact hK _ _ ⟨x6, x7, x8, x9, x10, x11, _, x13, x14, _, x16, x17, _, _, x20, x21, x22, x23, rfl, hB, i0, i1, i2, i3, i4, fun _ => rfl, i6, i7, fun _ => rfl, i9, i10, fun _ => rfl, fun _ => rfl, i13, i14, i15, i16, i17⟩
    · rintro done a wx hd he ⟨x6, x7, x8, x9, x10, x11, x12, x13, x14, x15, x16, x17, x18, x19, x20, x21, x22, x23, rfl, hB, i0, i1, i2, i3, i4, i5, i6, i7, i8, i9, i10, i11, i12, i13, i14, i15, i16, i17⟩ K hK
      simp [Region.binds] at he
      obtain rfl := i5 (by simp [he])
      obtain rfl := i12 (by simp [he])
      refine step_wp rfl (wp_value (.bool true) (by kernel_rfl) ?_)
      exact hK _ _ ⟨x6, x7, x8, x9, x10, x11, _, x13, x14, x15, x16, x17, x18, _, _, x21, x22, x23, rfl, hB, i0, i1, i2, i3, i4, fun _ => rfl, i6, i7, i8, i9, i10, i11, fun _ => rfl, fun _ => rfl, i14, i15, i16, i17⟩
    · rintro done a wx hd he ⟨x6, x7, x8, x9, x10, x11, x12, x13, x14, x15, x16, x17, x18, x19, x20, x21, x22, x23, rfl, hB, i0, i1, i2, i3, i4, i5, i6, i7, i8, i9, i10, i11, i12, i13, i14, i15, i16, i17⟩ K hK
      simp [Region.binds] at he
      obtain rfl := i13 (by simp [he])
      refine step_wp rfl (wp_value (.bool true) (by kernel_rfl) ?_)
      exact hK _ _ ⟨x6, x7, x8, x9, x10, x11, x12, x13, x14, x15, x16, x17, x18, x19, _, _, x22, x23, rfl, hB, i0, i1, i2, i3, i4, i5, i6, i7, i8, i9, i10, i11, i12, fun _ => rfl, fun _ => rfl, i15, i16, i17⟩
    · rintro done a wx hd he ⟨x6, x7, x8, x9, x10, x11, x12, x13, x14, x15, x16, x17, x18, x19, x20, x21, x22, x23, rfl, hB, i0, i1, i2, i3, i4, i5, i6, i7, i8, i9, i10, i11, i12, i13, i14, i15, i16, i17⟩ K hK
      simp [Region.binds] at he
      obtain rfl := i14 (by simp [he])
      refine step_wpG (by kernel_rfl) (wp_call (f := 12) (args := #[]) (by kernel_rfl) (h4.out wx (Hs.out.below hB)) ?_)
      rintro en w1 ⟨rfl, hb⟩
      exact ⟨_, rfl, hK _ _ ⟨x6, x7, x8, x9, x10, x11, x12, x13, x14, x15, x16, x17, x18, x19, x20, _, _, x23, rfl, hB.trans (hb.mono hB.size), i0, i1, i2, i3, i4, i5, i6, i7, i8, i9, i10, i11, i12, i13, fun _ => rfl, fun _ => rfl, i16, i17⟩⟩
    · rintro done a wx hd he ⟨x6, x7, x8, x9, x10, x11, x12, x13, x14, x15, x16, x17, x18, x19, x20, x21, x22, x23, rfl, hB, i0, i1, i2, i3, i4, i5, i6, i7, i8, i9, i10, i11, i12, i13, i14, i15, i16, i17⟩ K hK
      simp [Region.binds] at he
      obtain rfl := i14 (by simp [he])
      obtain rfl := i15 (by simp [he])
      refine step_wp rfl (wp_value (.bool true) (by kernel_rfl) ?_)
      exact hK _ _ ⟨x6, x7, x8, x9, x10, x11, x12, x13, x14, x15, x16, x17, x18, x19, x20, _, _, _, rfl, hB, i0, i1, i2, i3, i4, i5, i6, i7, i8, i9, i10, i11, i12, i13, fun _ => rfl, fun _ => rfl, fun _ => rfl, i17⟩
    · rintro done a wx hd he ⟨x6, x7, x8, x9, x10, x11, x12, x13, x14, x15, x16, x17, x18, x19, x20, x21, x22, x23, rfl, hB, i0, i1, i2, i3, i4, i5, i6, i7, i8, i9, i10, i11, i12, i13, i14, i15, i16, i17⟩ K hK
      simp [Region.binds] at he
      obtain rfl := i16 (by simp [he])
      refine step_wp rfl (wp_value (.bool true) (by kernel_rfl) ?_)
      exact hK _ _ ⟨_, x7, x8, x9, x10, x11, x12, x13, x14, x15, x16, x17, x18, x19, x20, x21, x22, _, rfl, hB, i0, i1, i2, i3, i4, i5, i6, i7, i8, i9, i10, i11, i12, i13, i14, i15, fun _ => rfl, fun _ => rfl⟩
  · rintro done a wx hd ⟨x6, x7, x8, x9, x10, x11, x12, x13, x14, x15, x16, x17, x18, x19, x20, x21, x22, x23, rfl, hB, i0, i1, i2, i3, i4, i5, i6, i7, i8, i9, i10, i11, i12, i13, i14, i15, i16, i17⟩
    have dd : ∀ j, j < 18 → done j = true := fun j h => hd j (by simpa using h)
    obtain rfl := i0 (dd 0 (by omega))
    obtain rfl := i1 (dd 1 (by omega))
    obtain rfl := i2 (dd 2 (by omega))
    obtain rfl := i3 (dd 3 (by omega))
    obtain rfl := i4 (dd 4 (by omega))
    obtain rfl := i5 (dd 5 (by omega))
    obtain rfl := i6 (dd 6 (by omega))
    obtain rfl := i7 (dd 7 (by omega))
    obtain rfl := i8 (dd 8 (by omega))
    obtain rfl := i9 (dd 9 (by omega))
    obtain rfl := i10 (dd 10 (by omega))
    obtain rfl := i11 (dd 11 (by omega))
    obtain rfl := i12 (dd 12 (by omega))
    obtain rfl := i13 (dd 13 (by omega))
    obtain rfl := i14 (dd 14 (by omega))
    obtain rfl := i15 (dd 15 (by omega))
    obtain rfl := i16 (dd 16 (by omega))
    obtain rfl := i17 (dd 17 (by omega))
    clear i0 i1 i2 i3 i4 i5 i6 i7 i8 i9 i10 i11 i12 i13 i14 i15 i16 i17 dd hd
    have hf := Lib.hid (Hb.out.trans (hB.mono Hb.out.size))
    clear hB
    go_wp2_with fail
    go_ret
    exact ⟨rfl, hf.out⟩
end Go.Proofs.YtbhmeapnmpgggaaGreatDoor.errsValid
