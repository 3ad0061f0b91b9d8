/- awake of the statements of layer 35. Condition: the sentinel's variable holds a pointer. -/
import Derived.Test.YtbhmeapnmpgggaaGreatDoorValidE
import Derived.Test.YtbhmeapnmpgggaaGreatDoorTextW
namespace Go.Proofs.YtbhmeapnmpgggaaGreatDoor
open Go.RowKit

def E.wrapT (g : Nat) : E := .mk 3 1 0 ⟨#[119]⟩ D.zero none 0 [] (some ⟨g, 0, none⟩) 1 [E.plainT 5 ⟨#[112]⟩]
theorem E.wrapT_in (g : Nat) (w : World) (h : Blk w g 29 (E.plainT 5 ⟨#[112]⟩).cs.toArray) : (E.wrapT g).In w := by
  refine ⟨⟨by simp, by simp, by simp, by simp [ByteArray.size], by simp, by simp, by simp, by simp, by simp, fun x h => by simp at h⟩, D.zero_in w, fun q x h => by simp at h, ⟨⟨⟨g, 0, none⟩, rfl, ?_⟩, E.plainT_in _ _ _ (by simp) (by simp [ByteArray.size]), trivial⟩⟩
  intro q u hq
  have : (Addr.add ⟨g, 0, none⟩ (0 * 11)).add q = ⟨g, q, none⟩ := by
    rw [Nat.zero_mul, add_of_add]; unfold Addr.add; split <;> simp_all
  rw [this, h.cell]
  simpa using hq
theorem E.wrapT_is (bq : D → D → Bool × Bool) (g : Nat) : E.isR bq (E.wrapT g) (E.plainT 5 ⟨#[112]⟩) = (true, false) := by
  rfl
theorem E.wrapT_right (g : Nat) : (E.wrapT g).right = true := by
  rfl
theorem E.wrapT_valid (g : Nat) : (E.wrapT g).valid0 = true := by
  rfl

set_option maxHeartbeats 2000000 in
set_option maxRecDepth 100000 in
theorem awakeE_any (u : Addr) (w : World) (hs : Sen u w) : Calls Tryz.prog 12 #[] w (Ret (.bool true) w) := by
  have h38 : Hid (∀ w, Calls Tryz.prog 38 #[.int .i64 5] w (Ret (.agg #[.int .i64 1, .int .i64 0, .int .i64 5, .string ⟨#[112]⟩, .int .i64 0, .int .i64 0, .int .u64 0, .string ⟨#[]⟩, .slice none 0 0, .slice none 0 0, .slice none 0 0]) w)) := Lib.hid (fun w => plainL_any 5 w)
  have hT := Lib.hid (fun g w hin => textW_any (E.wrapT g) (E.plainT 5 ⟨#[112]⟩) w hin rfl rfl rfl (show (1 : Nat) ≤ 65535 by decide) (show (1 : Nat) ≤ 65535 by decide))
  have hI := Lib.hid (fun g w hin hs => isE_any (fun _ _ => (false, false)) u (E.wrapT g) (E.plainT 5 ⟨#[112]⟩) w hin (E.plainT_in 5 ⟨#[112]⟩ w (by decide) (by decide)) rfl rfl (show (2 : Nat) ≤ 4096 by decide) hs (fun h => by cases h))
  have hV := Lib.hid (fun g w hin => validE0_any (E.wrapT g) w hin)
  have Hs := Lib.hid hs
  clear hs
  go_enter Tryz.func12, Tryz.ntmps12
  go_wp2_with fail
  refine (h38.out w).mono ?_
  rintro en w1 ⟨rfl, hb⟩
  have hW : ∀ W, W = ((w1.alloc (.cells #[.int .i64 1, .int .i64 0, .int .i64 5, .string ⟨#[112]⟩, .int .i64 0, .int .i64 0, .int .u64 0, .string ⟨#[]⟩, .slice none 0 0, .slice none 0 0, .slice none 0 0] 29)).alloc (.cells #[.int .i64 3, .int .i64 1, .int .i64 0, .string ⟨#[119]⟩, .int .i64 0, .int .i64 0, .int .u64 0, .string ⟨#[]⟩, .slice none 0 0, .slice none 0 0, .slice (some ⟨w1.heap.size, 0, none⟩) 1 1] 29)) → (E.wrapT w1.heap.size).In W ∧ Blk W (w1.heap.size + 1) 29 (E.wrapT w1.heap.size).cs.toArray ∧ Below w.heap.size w W := fun W h => by
    subst h
    exact ⟨E.wrapT_in _ _ ((Blk.new _ _ _).alloc _), Blk.new' (by simp) _ _, (hb.alloc hb.size _).alloc (by have := hb.size; simp; omega) _⟩
  have HW := Lib.hid hW
  clear hW hb
  go_upto_region 2 with fail
  obtain ⟨b1, b2, b3⟩ := HW.out _ rfl
  clear HW
  generalize hg : w1.heap.size = g at *
  clear hg
  generalize (w1.alloc _).alloc _ = W at *
  have HB := Lib.hid (And.intro b1 (And.intro b2 b3))
  clear b1 b2 b3
  have uE := Tryz.underlying29
  have sE : (Tryz.prog.info? 29).map (·.size) = some 11 := by kernel_rfl
  have Hb := HB.out.2.1
  unfold Blk at Hb
  go_wp2_with (refine wpList_load_row rfl 29 _ rfl (g + 1) rfl _ _ _ _ Hb uE rfl sE ?_)
  refine (hT.out g W HB.out.1).mono ?_
  rintro en w2 ⟨rfl, hb⟩
  have b1 := HB.out.1.below hb
  have b2 := HB.out.2.1.to hb
  have b3 := HB.out.2.2.trans (hb.mono HB.out.2.2.size)
  have HB2 := Lib.hid (And.intro b1 (And.intro b2 b3))
  clear b1 b2 b3 hb HB Hb
  have hs2 := Lib.hid (Hs.out.below HB2.out.2.2)
  go_upto_region 3 with fail
  have B2 := Lib.hid HB2.out.2.1
  refine wp_region_each (by kernel_rfl) (by kernel_rfl) (fun done a w' => ∃ x4 x5 x14 x15 x16 x17 x18 x19 r0 r2 r3 r6 r7 r8 r9 r10 r11 r12 r13, a = ⟨#[r0, .pointer (some ⟨g + 1, 0, none⟩), r2, r3, x4, x5, r6, r7, r8, r9, r10, r11, r12, r13, x14, x15, x16, x17, x18, x19, undef, undef, undef, undef, undef, undef, undef, undef, undef, undef, undef, undef, undef, undef, undef, undef, undef], []⟩ ∧
      (r2 = .string (⟨#[119]⟩ ++ ⟨#[58, 32]⟩ ++ ⟨#[112]⟩) ∧ r3 = .int .i64 0) ∧ Below w2.heap.size w2 w' ∧ (done 0 = true → x15 = (E.wrapT g).v) ∧ (done 1 = true → x16 = (E.plainT 5 ⟨#[112]⟩).v) ∧ (done 2 = true → x17 = .tuple #[.bool true, .int .i64 0]) ∧ (done 3 = true → x14 = .tuple #[.bool true, .int .i64 0]) ∧ (done 4 = true → x18 = .bool true) ∧ (done 5 = true → x19 = .int .i64 0) ∧ (done 6 = true → x4 = .bool true) ∧ (done 7 = true → x5 = .int .i64 0)) ?_ ?_ ?_
  · refine ⟨_, _, _, _, _, _, _, _, _, _, _, _, _, _, _, _, _, _, _, rfl, ⟨rfl, rfl⟩, (Below.refl _ _).drew, ?_⟩
    simp
  · refine ⟨?_, ?_, ?_, ?_, ?_, ?_, ?_, ?_, trivial⟩
    · rintro done a wx hd he ⟨x4, x5, x14, x15, x16, x17, x18, x19, r0, r2, r3, r6, r7, r8, r9, r10, r11, r12, r13, rfl, hr, i0, i1, i2, i3, i4, i5, i6, i7, i8⟩ K hK
      refine step_wp rfl (wp_load_row 29 _ rfl (g + 1) rfl _ _ _ _ (B2.out.to i0) uE rfl sE ?_)
      exact hK _ _ ⟨x4, x5, x14, _, x16, x17, x18, x19, r0, _, _, r6, r7, r8, r9, r10, r11, r12, r13, rfl, (by first | exact hr | exact ⟨rfl, rfl⟩), i0, fun _ => rfl, i2, i3, i4, i5, i6, i7, i8⟩
    · rintro done a wx hd he ⟨x4, x5, x14, x15, x16, x17, x18, x19, r0, r2, r3, r6, r7, r8, r9, r10, r11, r12, r13, rfl, hr, i0, i1, i2, i3, i4, i5, i6, i7, i8⟩ K hK
      refine step_wp rfl (wp_call (f := 38) (args := #[.int .i64 5]) (by kernel_rfl) (plainL_any 5 wx) ?_)
      rintro en w1 ⟨rfl, hb⟩
      exact ⟨_, rfl, hK _ _ ⟨x4, x5, x14, x15, _, x17, x18, x19, r0, _, _, r6, r7, r8, r9, r10, r11, r12, r13, rfl, (by first | exact hr | exact ⟨rfl, rfl⟩), i0.trans (hb.mono i0.size), i1, fun _ => rfl, i3, i4, i5, i6, i7, i8⟩⟩
    · rintro done a wx hd he ⟨x4, x5, x14, x15, x16, x17, x18, x19, r0, r2, r3, r6, r7, r8, r9, r10, r11, r12, r13, rfl, hr, i0, i1, i2, i3, i4, i5, i6, i7, i8⟩ K hK
      simp [Region.binds] at he
      obtain rfl := i1 he.1
      obtain rfl := i2 he.2
      refine step_wp rfl (wp_call (f := 17) (args := #[(E.wrapT g).v, (E.plainT 5 ⟨#[112]⟩).v]) (by kernel_rfl) (hI.out g wx (HB2.out.1.below i0) (hs2.out.below i0)) ?_)
      rintro en w1 ⟨rfl, hb⟩
      exact ⟨_, rfl, hK _ _ ⟨x4, x5, x14, _, _, _, x18, x19, r0, _, _, r6, r7, r8, r9, r10, r11, r12, r13, rfl, (by first | exact hr | exact ⟨rfl, rfl⟩), i0.trans (hb.mono i0.size), fun _ => rfl, fun _ => rfl, fun _ => rfl, i4, i5, i6, i7, i8⟩⟩
    · rintro done a wx hd he ⟨x4, x5, x14, x15, x16, x17, x18, x19, r0, r2, r3, r6, r7, r8, r9, r10, r11, r12, r13, rfl, hr, i0, i1, i2, i3, i4, i5, i6, i7, i8⟩ K hK
      simp [Region.binds] at he
      obtain rfl := i3 he
      refine step_wp rfl (wp_value (.tuple #[.bool true, .int .i64 0]) (by kernel_rfl) ?_)
      exact hK _ _ ⟨x4, x5, _, x15, x16, _, x18, x19, r0, _, _, r6, r7, r8, r9, r10, r11, r12, r13, rfl, (by first | exact hr | exact ⟨rfl, rfl⟩), i0, i1, i2, fun _ => rfl, fun _ => rfl, i5, i6, i7, i8⟩
    · rintro done a wx hd he ⟨x4, x5, x14, x15, x16, x17, x18, x19, r0, r2, r3, r6, r7, r8, r9, r10, r11, r12, r13, rfl, hr, i0, i1, i2, i3, i4, i5, i6, i7, i8⟩ K hK
      simp [Region.binds] at he
      obtain rfl := i4 he
      refine step_wp rfl (wp_value (.bool true) (by kernel_rfl) ?_)
      exact hK _ _ ⟨x4, x5, _, x15, x16, x17, _, x19, r0, _, _, r6, r7, r8, r9, r10, r11, r12, r13, rfl, (by first | exact hr | exact ⟨rfl, rfl⟩), i0, i1, i2, i3, fun _ => rfl, fun _ => rfl, i6, i7, i8⟩
    · rintro done a wx hd he ⟨x4, x5, x14, x15, x16, x17, x18, x19, r0, r2, r3, r6, r7, r8, r9, r10, r11, r12, r13, rfl, hr, i0, i1, i2, i3, i4, i5, i6, i7, i8⟩ K hK
      simp [Region.binds] at he
      obtain rfl := i4 he
      refine step_wp rfl (wp_value (.int .i64 0) (by kernel_rfl) ?_)
      exact hK _ _ ⟨x4, x5, _, x15, x16, x17, x18, _, r0, _, _, r6, r7, r8, r9, r10, r11, r12, r13, rfl, (by first | exact hr | exact ⟨rfl, rfl⟩), i0, i1, i2, i3, fun _ => rfl, i5, fun _ => rfl, i7, i8⟩
    · rintro done a wx hd he ⟨x4, x5, x14, x15, x16, x17, x18, x19, r0, r2, r3, r6, r7, r8, r9, r10, r11, r12, r13, rfl, hr, i0, i1, i2, i3, i4, i5, i6, i7, i8⟩ K hK
      simp [Region.binds] at he
      obtain rfl := i5 he.1
      refine step_wp rfl (wp_value (.bool true) (by kernel_rfl) ?_)
      exact hK _ _ ⟨_, x5, x14, x15, x16, x17, _, x19, r0, _, _, r6, r7, r8, r9, r10, r11, r12, r13, rfl, (by first | exact hr | exact ⟨rfl, rfl⟩), i0, i1, i2, i3, i4, fun _ => rfl, i6, fun _ => rfl, i8⟩
    · rintro done a wx hd he ⟨x4, x5, x14, x15, x16, x17, x18, x19, r0, r2, r3, r6, r7, r8, r9, r10, r11, r12, r13, rfl, hr, i0, i1, i2, i3, i4, i5, i6, i7, i8⟩ K hK
      simp [Region.binds] at he
      obtain rfl := i6 he.1
      refine step_wp rfl (wp_value (.int .i64 0) (by kernel_rfl) ?_)
      exact hK _ _ ⟨x4, _, x14, x15, x16, x17, x18, _, r0, _, _, r6, r7, r8, r9, r10, r11, r12, r13, rfl, (by first | exact hr | exact ⟨rfl, rfl⟩), i0, i1, i2, i3, i4, i5, fun _ => rfl, i7, fun _ => rfl⟩
  · rintro done a wx hd ⟨x4, x5, x14, x15, x16, x17, x18, x19, r0, r2, r3, r6, r7, r8, r9, r10, r11, r12, r13, rfl, ⟨rfl, rfl⟩, i0, i1, i2, i3, i4, i5, i6, i7, i8⟩
    have dd : ∀ j, j < 8 → done j = true := fun j h => hd j (by simpa using h)
    obtain rfl := i7 (dd 6 (by omega))
    obtain rfl := i8 (dd 7 (by omega))
    have Hb := B2.out.to i0
    have hv := Lib.hid (hV.out g wx (HB2.out.1.below i0))
    have hfin := Lib.hid (HB2.out.2.2.trans (i0.mono HB2.out.2.2.size))
    clear i0 i1 i2 i3 i4 i5 i6 i7 i8 dd hd
    unfold Blk at Hb
    have hstr : (((⟨#[119]⟩ ++ ⟨#[58, 32]⟩ ++ ⟨#[112]⟩ : ByteArray)).toList == [119, 58, 32, 112]) = true := by decide +kernel
    go_wp2_with (refine wpList_load_guarded (by kernel_rfl) 29 _ rfl (g + 1) rfl _ _ _ _ Hb uE rfl sE ?_)
    refine hv.out.mono ?_
    rintro en w3 ⟨rfl, hb⟩
    have hfin := Lib.hid (hfin.out.trans (hb.mono hfin.out.size))
    have hvv := Lib.hid (E.wrapT_valid g)
    clear hb hv Hb
    go_wp2_with fail
    go_ret
    exact ⟨congrArg (fun b => Ending.returned (.bool b)) hvv.out, hfin.out⟩
end Go.Proofs.YtbhmeapnmpgggaaGreatDoor
