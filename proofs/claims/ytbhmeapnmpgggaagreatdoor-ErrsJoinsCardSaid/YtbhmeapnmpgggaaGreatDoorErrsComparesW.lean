/- ErrsCompares: the law's walk. Conditions: both trees lie in the world; the sentinel's variable holds a pointer. -/
import Derived.Test.YtbhmeapnmpgggaaGreatDoorIsR2
import Derived.Test.YtbhmeapnmpgggaaGreatDoorEqualW
import Derived.Test.YtbhmeapnmpgggaaGreatDoorSame0E
import Derived.Test.YtbhmeapnmpgggaaGreatDoorAwakeE
namespace Go.Proofs.YtbhmeapnmpgggaaGreatDoor.errsCompares
open Go.RowKit Go.Joins

def num (b : Bool) : Int := if b then 10 else 0
/-- two results: found, and a number that tells of a panic -/
def Two (a b : Bool) (w : World) (e : Ending) (w2 : World) : Prop := e = .returned (.tuple #[.bool a, .int .i64 (num b)]) ∧ Below w.heap.size w w2
theorem two_cmp {u : Addr} {r : Bool × Bool} (h : r.2 = true → r.1 = false) {w : World} : ∀ e w', CmpGoes u r w e w' → Two r.1 r.2 w e w' := by
  rintro e w' ⟨rfl, hb⟩
  refine ⟨?_, hb⟩
  obtain ⟨a, b⟩ := r
  cases b
  · rfl
  · rw [h rfl]; rfl
theorem isR_snd (e t : E) : (E.isR D.req e t).2 = true → (E.isR D.req e t).1 = false := by
  unfold E.isR
  by_cases h : e.k = 0 ∨ t.k = 0
  · rw [if_pos h]; exact fun h => absurd h (by simp)
  · rw [if_neg h, isr_ris D.req t (fun e => eqr_snd e t)]
    exact ris_snd D.req t (fun e => eqr_snd e t) e

/-- what the calls of a valid pair are -/
structure Pair (u : Addr) (e t : E) (a b a' b' s : Bool) (w : World) : Prop where
  eq0 : ∀ W, Below w.heap.size w W → Calls Tryz.prog 13 #[e.v, t.v] W (Two a b W)
  eq1 : ∀ W, Below w.heap.size w W → Calls Tryz.prog 14 #[e.v, t.v] W (Two a b W)
  sm0 : ∀ W, Below w.heap.size w W → Calls Tryz.prog 15 #[e.v, t.v] W (Ret (.bool s) W)
  sm1 : ∀ W, Below w.heap.size w W → Calls Tryz.prog 16 #[e.v, t.v] W (Ret (.bool s) W)
  is0 : ∀ W, Below w.heap.size w W → Calls Tryz.prog 17 #[e.v, t.v] W (Two a' b' W)
  is1 : ∀ W, Below w.heap.size w W → Calls Tryz.prog 18 #[e.v, t.v] W (Two a' b' W)
theorem pair_of (u : Addr) (e t : E) (w : World) (he : e.In w) (ht : t.In w) (hs : Sen u w) (h1 : e.valid1 = true) (h2 : t.valid1 = true) : ∃ a b a' b' s, Pair u e t a b a' b' s w := by
  have o1 := (E.valid1_iff e).1 h1
  have o2 := (E.valid1_iff t).1 h2
  refine ⟨(E.eqr D.req e t).1, (E.eqr D.req e t).2, (E.isR D.req e t).1, (E.isR D.req e t).2, e.same t, ?_, ?_, ?_, ?_, ?_, ?_⟩
  · exact fun W h => (errEqual_any u e t W (he.below h) (ht.below h) o1.2.2.2 o2.2.2.2 (hs.below h)).mono (two_cmp (eqr_snd e t))
  · exact fun W h => reqE_any e t W (he.below h) (ht.below h) o1.2.2.2 o2.2.2.2
  · exact fun W h => sameE0_any e.size e t W (Nat.le_refl _) (he.below h) (ht.below h)
  · exact fun W h => sameE1_any e.size e t W (Nat.le_refl _) (he.below h) (ht.below h)
  · exact fun W h => (isE_any D.req u e t W (he.below h) (ht.below h) o1.2.2.2 o2.2.2.2 o1.2.1 (hs.below h) (fun _ => dEq)).mono (two_cmp (isR_snd e t))
  · exact fun W h => isR_any e t W (he.below h) (ht.below h) o1.2.2.2 o2.2.2.2

set_option maxHeartbeats 2000000 in
set_option maxRecDepth 100000 in
theorem law (u : Addr) (e t : E) (w : World) (he : e.In w) (ht : t.In w) (hs : Sen u w) : Calls Tryz.prog 3 #[e.v, t.v] w (Ret (.bool true) w) := by
  have hv1 := Lib.hid (fun W (h : Below w.heap.size w W) => validE1_any e W (he.below h))
  have hv2 := Lib.hid (fun W (h : Below w.heap.size w W) => validE1_any t W (ht.below h))
  have hP := Lib.hid (fun h1 h2 => pair_of u e t w he ht hs h1 h2)
  have hA := Lib.hid (fun W (h : Below w.heap.size w W) => awakeE_any u W (hs.below h))
  have hW : ∀ W, W = ((w.alloc (.cells e.cs.toArray 29)).alloc (.cells t.cs.toArray 29)) → Blk W w.heap.size 29 e.cs.toArray ∧ Blk W (w.heap.size + 1) 29 t.cs.toArray ∧ Below w.heap.size w W := fun W h => by
    subst h
    exact ⟨(Blk.new _ _ _).alloc _, Blk.new' (by simp) _ _, two_alloc _ _ _⟩
  have HW := Lib.hid hW
  clear hW he ht hs
  generalize e.valid1 = ve at *
  generalize t.valid1 = vt at *
  simp only [E.v, E.cs] at HW hv1 hv2 ⊢
  go_enter Tryz.func3, Tryz.ntmps3
  go_upto_region 1 with fail
  obtain ⟨b1, b2, b3⟩ := HW.out _ rfl
  clear HW
  generalize (w.alloc _).alloc _ = W at *
  have HB := Lib.hid (And.intro b1 (And.intro b2 b3))
  have c0 := b1.cell 0
  have c1 := b1.cell 1
  have c2 := b1.cell 2
  have c3 := b1.cell 3
  have c4 := b1.cell 4
  have c5 := b1.cell 5
  have c6 := b1.cell 6
  have c7 := b1.cell 7
  have c8 := b1.cell 8
  have c9 := b1.cell 9
  have c10 := b1.cell 10
  have d0 := b2.cell 0
  have d1 := b2.cell 1
  have d2 := b2.cell 2
  have d3 := b2.cell 3
  have d4 := b2.cell 4
  have d5 := b2.cell 5
  have d6 := b2.cell 6
  have d7 := b2.cell 7
  have d8 := b2.cell 8
  have d9 := b2.cell 9
  have d10 := b2.cell 10
  simp at c0 c1 c2 c3 c4 c5 c6 c7 c8 c9 c10 d0 d1 d2 d3 d4 d5 d6 d7 d8 d9 d10
  clear b1 b2 b3
  go_wp2_with fail
  refine (hv1.out _ HB.out.2.2).mono ?_
  rintro en w1 ⟨rfl, hb⟩
  have HB1 := Lib.hid (show Blk w1 w.heap.size 29 _ ∧ Blk w1 (w.heap.size + 1) 29 _ ∧ Below w.heap.size w w1 from ⟨HB.out.1.to hb, HB.out.2.1.to hb, HB.out.2.2.trans (hb.mono HB.out.2.2.size)⟩)
  clear hb HB c0 d0 c1 d1 c2 d2 c3 d3 c4 d4 c5 d5 c6 d6 c7 d7 c8 d8 c9 d9 c10 d10
  cases ve
  · go_wp2_with fail
    refine (hA.out _ HB1.out.2.2).mono ?_
    rintro en w2 ⟨rfl, hb⟩
    have Hf := Lib.hid (HB1.out.2.2.trans (hb.mono HB1.out.2.2.size))
    clear hb
    go_wp2_with fail
    go_ret
    exact ⟨rfl, Hf.out⟩
  obtain ⟨b1, b2, b3⟩ := HB1.out
  have c0 := b1.cell 0
  have c1 := b1.cell 1
  have c2 := b1.cell 2
  have c3 := b1.cell 3
  have c4 := b1.cell 4
  have c5 := b1.cell 5
  have c6 := b1.cell 6
  have c7 := b1.cell 7
  have c8 := b1.cell 8
  have c9 := b1.cell 9
  have c10 := b1.cell 10
  have d0 := b2.cell 0
  have d1 := b2.cell 1
  have d2 := b2.cell 2
  have d3 := b2.cell 3
  have d4 := b2.cell 4
  have d5 := b2.cell 5
  have d6 := b2.cell 6
  have d7 := b2.cell 7
  have d8 := b2.cell 8
  have d9 := b2.cell 9
  have d10 := b2.cell 10
  simp at c0 c1 c2 c3 c4 c5 c6 c7 c8 c9 c10 d0 d1 d2 d3 d4 d5 d6 d7 d8 d9 d10
  clear b1 b2 b3
  go_wp2_with fail
  refine (hv2.out _ HB1.out.2.2).mono ?_
  rintro en w2 ⟨rfl, hb⟩
  have HB2 := Lib.hid (show Blk w2 w.heap.size 29 _ ∧ Blk w2 (w.heap.size + 1) 29 _ ∧ Below w.heap.size w w2 from ⟨HB1.out.1.to hb, HB1.out.2.1.to hb, HB1.out.2.2.trans (hb.mono HB1.out.2.2.size)⟩)
  clear hb HB1 c0 d0 c1 d1 c2 d2 c3 d3 c4 d4 c5 d5 c6 d6 c7 d7 c8 d8 c9 d9 c10 d10
  cases vt
  · go_wp2_with fail
    refine (hA.out _ HB2.out.2.2).mono ?_
    rintro en w3 ⟨rfl, hb⟩
    have Hf := Lib.hid (HB2.out.2.2.trans (hb.mono HB2.out.2.2.size))
    clear hb
    go_wp2_with fail
    go_ret
    exact ⟨rfl, Hf.out⟩
  obtain ⟨fa, fb, a', b', s, P⟩ := hP.out (by simp) (by simp)
  obtain ⟨p1, p2, p3, p4, p5, p6⟩ := P
  have P1 := Lib.hid p1
  have P2 := Lib.hid p2
  have P3 := Lib.hid p3
  have P4 := Lib.hid p4
  have P5 := Lib.hid p5
  have P6 := Lib.hid p6
  clear hP hv1 hv2 p1 p2 p3 p4 p5 p6
  simp only [E.v, E.cs] at P1 P2 P5 P6
  obtain ⟨b1, b2, b3⟩ := HB2.out
  have c0 := b1.cell 0
  have c1 := b1.cell 1
  have c2 := b1.cell 2
  have c3 := b1.cell 3
  have c4 := b1.cell 4
  have c5 := b1.cell 5
  have c6 := b1.cell 6
  have c7 := b1.cell 7
  have c8 := b1.cell 8
  have c9 := b1.cell 9
  have c10 := b1.cell 10
  have d0 := b2.cell 0
  have d1 := b2.cell 1
  have d2 := b2.cell 2
  have d3 := b2.cell 3
  have d4 := b2.cell 4
  have d5 := b2.cell 5
  have d6 := b2.cell 6
  have d7 := b2.cell 7
  have d8 := b2.cell 8
  have d9 := b2.cell 9
  have d10 := b2.cell 10
  simp at c0 c1 c2 c3 c4 c5 c6 c7 c8 c9 c10 d0 d1 d2 d3 d4 d5 d6 d7 d8 d9 d10
  clear b1 b2 b3
  go_wp2_with fail
  refine (P1.out _ HB2.out.2.2).mono ?_
  rintro en w3 ⟨rfl, hb⟩
  have HB3 := Lib.hid (show Blk w3 w.heap.size 29 _ ∧ Blk w3 (w.heap.size + 1) 29 _ ∧ Below w.heap.size w w3 from ⟨HB2.out.1.to hb, HB2.out.2.1.to hb, HB2.out.2.2.trans (hb.mono HB2.out.2.2.size)⟩)
  clear hb HB2 c0 d0 c1 d1 c2 d2 c3 d3 c4 d4 c5 d5 c6 d6 c7 d7 c8 d8 c9 d9 c10 d10
  obtain ⟨b1, b2, b3⟩ := HB3.out
  have c0 := b1.cell 0
  have c1 := b1.cell 1
  have c2 := b1.cell 2
  have c3 := b1.cell 3
  have c4 := b1.cell 4
  have c5 := b1.cell 5
  have c6 := b1.cell 6
  have c7 := b1.cell 7
  have c8 := b1.cell 8
  have c9 := b1.cell 9
  have c10 := b1.cell 10
  have d0 := b2.cell 0
  have d1 := b2.cell 1
  have d2 := b2.cell 2
  have d3 := b2.cell 3
  have d4 := b2.cell 4
  have d5 := b2.cell 5
  have d6 := b2.cell 6
  have d7 := b2.cell 7
  have d8 := b2.cell 8
  have d9 := b2.cell 9
  have d10 := b2.cell 10
  simp at c0 c1 c2 c3 c4 c5 c6 c7 c8 c9 c10 d0 d1 d2 d3 d4 d5 d6 d7 d8 d9 d10
  clear b1 b2 b3
  go_wp2_with fail
  refine (P2.out _ HB3.out.2.2).mono ?_
  rintro en w4 ⟨rfl, hb⟩
  have HB4 := Lib.hid (show Blk w4 w.heap.size 29 _ ∧ Blk w4 (w.heap.size + 1) 29 _ ∧ Below w.heap.size w w4 from ⟨HB3.out.1.to hb, HB3.out.2.1.to hb, HB3.out.2.2.trans (hb.mono HB3.out.2.2.size)⟩)
  clear hb HB3 P1 P2 c0 d0 c1 d1 c2 d2 c3 d3 c4 d4 c5 d5 c6 d6 c7 d7 c8 d8 c9 d9 c10 d10
  go_wp2_with fail
  have Be := Lib.hid HB4.out.1
  have Bt := Lib.hid HB4.out.2.1
  have Hb := Lib.hid HB4.out.2.2
  have uE := Tryz.underlying29
  have sE : (Tryz.prog.info? 29).map (·.size) = some 11 := by kernel_rfl
  refine wp_region_each (by kernel_rfl) (by kernel_rfl) (fun done a w' => ∃ x30 x31 x32 x33 x34 x35 x36 x37 x38 x39 x40 x41 x42 x43 x44 x45 x46, a = ⟨#[e.v, t.v, Value.pointer (some ⟨w.heap.size, 0, none⟩), Value.pointer (some ⟨w.heap.size + 1, 0, none⟩), Value.bool false, Value.bool fa, Value.int IntKind.i64 (num fb), Value.bool fa, Value.int IntKind.i64 (num fb), e.v, Value.bool true, Value.bool false, Value.bool false, t.v, Value.bool true, Value.bool false, Value.bool false, undef, Value.tuple #[Value.bool fa, Value.int IntKind.i64 (num fb)], e.v, t.v, Value.tuple #[Value.bool fa, Value.int IntKind.i64 (num fb)], Value.bool fa, Value.int IntKind.i64 (num fb), Value.tuple #[Value.bool fa, Value.int IntKind.i64 (num fb)], e.v, t.v, Value.tuple #[Value.bool fa, Value.int IntKind.i64 (num fb)], Value.bool fa, Value.int IntKind.i64 (num fb), x30, x31, x32, x33, x34, x35, x36, x37, x38, x39, x40, x41, x42, x43, x44, x45, x46, undef, undef, undef, undef, undef, undef, undef, undef, undef, undef, undef, undef, undef, undef, undef, undef, undef, undef, undef, undef, undef, undef, undef], []⟩ ∧ Below w4.heap.size w4 w' ∧ (done 0 = true → x30 = .bool fa) ∧ (done 1 = true → x31 = .bool fa) ∧ (done 2 = true → x32 = .bool false) ∧ (done 3 = true → x33 = .bool false) ∧ (done 4 = true → x34 = .int .i64 (num fb)) ∧ (done 5 = true → x35 = .int .i64 (num fb)) ∧ (done 6 = true → x36 = .bool false) ∧ (done 7 = true → x37 = .bool false) ∧ (done 8 = true → x38 = .bool false) ∧ (done 9 = true → x39 = e.v) ∧ (done 10 = true → x40 = t.v) ∧ (done 11 = true → x41 = .bool s) ∧ (done 12 = true → x42 = e.v) ∧ (done 13 = true → x43 = t.v) ∧ (done 14 = true → x44 = .bool s) ∧ (done 15 = true → x45 = .bool false) ∧ (done 16 = true → x46 = .bool false)) ?_ ?_ ?_
  · refine ⟨_, _, _, _, _, _, _, _, _, _, _, _, _, _, _, _, _, rfl, (Below.refl _ _).drew, ?_⟩
    simp
  · refine ⟨?_, ?_, ?_, ?_, ?_, ?_, ?_, ?_, ?_, ?_, ?_, ?_, ?_, ?_, ?_, ?_, ?_, trivial⟩
    · rintro done a wx hd he ⟨x30, x31, x32, x33, x34, x35, x36, x37, x38, x39, x40, x41, x42, x43, x44, x45, x46, rfl, hB, i0, i1, i2, i3, i4, i5, i6, i7, i8, i9, i10, i11, i12, i13, i14, i15, i16⟩ K hK
      refine step_wp rfl (wp_value (.bool fa) (by kernel_rfl) ?_)
      exact hK _ _ ⟨_, x31, x32, x33, x34, x35, x36, x37, x38, x39, x40, x41, x42, x43, x44, x45, x46, rfl, hB, fun _ => rfl, i1, i2, i3, i4, i5, i6, i7, i8, i9, i10, i11, i12, i13, i14, i15, i16⟩
    · rintro done a wx hd he ⟨x30, x31, x32, x33, x34, x35, x36, x37, x38, x39, x40, x41, x42, x43, x44, x45, x46, rfl, hB, i0, i1, i2, i3, i4, i5, i6, i7, i8, i9, i10, i11, i12, i13, i14, i15, i16⟩ K hK
      refine step_wp rfl (wp_value (.bool fa) (by kernel_rfl) ?_)
      exact hK _ _ ⟨x30, _, x32, x33, x34, x35, x36, x37, x38, x39, x40, x41, x42, x43, x44, x45, x46, rfl, hB, i0, fun _ => rfl, i2, i3, i4, i5, i6, i7, i8, i9, i10, i11, i12, i13, i14, i15, i16⟩
    · rintro done a wx hd he ⟨x30, x31, x32, x33, x34, x35, x36, x37, x38, x39, x40, x41, x42, x43, x44, x45, x46, rfl, hB, i0, i1, i2, i3, i4, i5, i6, i7, i8, i9, i10, i11, i12, i13, i14, i15, i16⟩ K hK
      simp [Region.binds] at he
      obtain rfl := i0 (by simp [he])
      obtain rfl := i1 (by simp [he])
      refine step_wp rfl (wp_value (.bool false) (by cases fa <;> kernel_rfl) ?_)
      exact hK _ _ ⟨_, _, _, x33, x34, x35, x36, x37, x38, x39, x40, x41, x42, x43, x44, x45, x46, rfl, hB, fun _ => rfl, fun _ => rfl, fun _ => rfl, i3, i4, i5, i6, i7, i8, i9, i10, i11, i12, i13, i14, i15, i16⟩
    · rintro done a wx hd he ⟨x30, x31, x32, x33, x34, x35, x36, x37, x38, x39, x40, x41, x42, x43, x44, x45, x46, rfl, hB, i0, i1, i2, i3, i4, i5, i6, i7, i8, i9, i10, i11, i12, i13, i14, i15, i16⟩ K hK
      simp [Region.binds] at he
      obtain rfl := i2 (by simp [he])
      refine step_wp rfl (wp_value (.bool false) (by kernel_rfl) ?_)
      exact hK _ _ ⟨x30, x31, _, _, x34, x35, x36, x37, x38, x39, x40, x41, x42, x43, x44, x45, x46, rfl, hB, i0, i1, fun _ => rfl, fun _ => rfl, i4, i5, i6, i7, i8, i9, i10, i11, i12, i13, i14, i15, i16⟩
    · rintro done a wx hd he ⟨x30, x31, x32, x33, x34, x35, x36, x37, x38, x39, x40, x41, x42, x43, x44, x45, x46, rfl, hB, i0, i1, i2, i3, i4, i5, i6, i7, i8, i9, i10, i11, i12, i13, i14, i15, i16⟩ K hK
      simp [Region.binds] at he
      obtain rfl := i3 (by simp [he])
      refine step_wpG (by kernel_rfl) (wp_value (.int .i64 (num fb)) (by kernel_rfl) ?_)
      exact hK _ _ ⟨x30, x31, x32, _, _, x35, x36, x37, x38, x39, x40, x41, x42, x43, x44, x45, x46, rfl, hB, i0, i1, i2, fun _ => rfl, fun _ => rfl, i5, i6, i7, i8, i9, i10, i11, i12, i13, i14, i15, i16⟩
    · rintro done a wx hd he ⟨x30, x31, x32, x33, x34, x35, x36, x37, x38, x39, x40, x41, x42, x43, x44, x45, x46, rfl, hB, i0, i1, i2, i3, i4, i5, i6, i7, i8, i9, i10, i11, i12, i13, i14, i15, i16⟩ K hK
      simp [Region.binds] at he
      obtain rfl := i3 (by simp [he])
      refine step_wpG (by kernel_rfl) (wp_value (.int .i64 (num fb)) (by kernel_rfl) ?_)
      exact hK _ _ ⟨x30, x31, x32, _, x34, _, x36, x37, x38, x39, x40, x41, x42, x43, x44, x45, x46, rfl, hB, i0, i1, i2, fun _ => rfl, i4, fun _ => rfl, i6, i7, i8, i9, i10, i11, i12, i13, i14, i15, i16⟩
    · rintro done a wx hd he ⟨x30, x31, x32, x33, x34, x35, x36, x37, x38, x39, x40, x41, x42, x43, x44, x45, x46, rfl, hB, i0, i1, i2, i3, i4, i5, i6, i7, i8, i9, i10, i11, i12, i13, i14, i15, i16⟩ K hK
      simp [Region.binds] at he
      obtain rfl := i3 (by simp [he])
      obtain rfl := i4 (by simp [he])
      obtain rfl := i5 (by simp [he])
      refine step_wpG (by kernel_rfl) (wp_value (.bool false) (by cases fb <;> kernel_rfl) ?_)
      exact hK _ _ ⟨x30, x31, x32, _, _, _, _, x37, x38, x39, x40, x41, x42, x43, x44, x45, x46, rfl, hB, i0, i1, i2, fun _ => rfl, fun _ => rfl, fun _ => rfl, fun _ => rfl, i7, i8, i9, i10, i11, i12, i13, i14, i15, i16⟩
    · rintro done a wx hd he ⟨x30, x31, x32, x33, x34, x35, x36, x37, x38, x39, x40, x41, x42, x43, x44, x45, x46, rfl, hB, i0, i1, i2, i3, i4, i5, i6, i7, i8, i9, i10, i11, i12, i13, i14, i15, i16⟩ K hK
      simp [Region.binds] at he
      obtain rfl := i3 (by simp [he])
      obtain rfl := i6 (by simp [he])
      refine step_wp rfl (wp_value (.bool false) (by kernel_rfl) ?_)
      exact hK _ _ ⟨x30, x31, x32, _, x34, x35, _, _, x38, x39, x40, x41, x42, x43, x44, x45, x46, rfl, hB, i0, i1, i2, fun _ => rfl, i4, i5, fun _ => rfl, fun _ => rfl, i8, i9, i10, i11, i12, i13, i14, i15, i16⟩
    · rintro done a wx hd he ⟨x30, x31, x32, x33, x34, x35, x36, x37, x38, x39, x40, x41, x42, x43, x44, x45, x46, rfl, hB, i0, i1, i2, i3, i4, i5, i6, i7, i8, i9, i10, i11, i12, i13, i14, i15, i16⟩ K hK
      simp [Region.binds] at he
      obtain rfl := i7 (by simp [he])
      refine step_wp rfl (wp_value (.bool false) (by kernel_rfl) ?_)
      exact hK _ _ ⟨x30, x31, x32, x33, x34, x35, x36, _, _, x39, x40, x41, x42, x43, x44, x45, x46, rfl, hB, i0, i1, i2, i3, i4, i5, i6, fun _ => rfl, fun _ => rfl, i9, i10, i11, i12, i13, i14, i15, i16⟩
    · rintro done a wx hd he ⟨x30, x31, x32, x33, x34, x35, x36, x37, x38, x39, x40, x41, x42, x43, x44, x45, x46, rfl, hB, i0, i1, i2, i3, i4, i5, i6, i7, i8, i9, i10, i11, i12, i13, i14, i15, i16⟩ K hK
      simp [Region.binds] at he
      obtain rfl := i8 (by simp [he])
      refine step_wpG (by kernel_rfl) (wp_load_row 29 _ rfl w.heap.size rfl _ _ _ _ (Be.out.to hB) uE rfl sE ?_)
      exact hK _ _ ⟨x30, x31, x32, x33, x34, x35, x36, x37, _, _, x40, x41, x42, x43, x44, x45, x46, rfl, hB, i0, i1, i2, i3, i4, i5, i6, i7, fun _ => rfl, fun _ => rfl, i10, i11, i12, i13, i14, i15, i16⟩
    · rintro done a wx hd he ⟨x30, x31, x32, x33, x34, x35, x36, x37, x38, x39, x40, x41, x42, x43, x44, x45, x46, rfl, hB, i0, i1, i2, i3, i4, i5, i6, i7, i8, i9, i10, i11, i12, i13, i14, i15, i16⟩ K hK
      simp [Region.binds] at he
      obtain rfl := i8 (by simp [he])
      refine step_wpG (by kernel_rfl) (wp_load_row 29 _ rfl (w.heap.size + 1) rfl _ _ _ _ (Bt.out.to hB) uE rfl sE ?_)
      exact hK _ _ ⟨x30, x31, x32, x33, x34, x35, x36, x37, _, x39, _, x41, x42, x43, x44, x45, x46, rfl, hB, i0, i1, i2, i3, i4, i5, i6, i7, fun _ => rfl, i9, fun _ => rfl, i11, i12, i13, i14, i15, i16⟩
    · rintro done a wx hd he ⟨x30, x31, x32, x33, x34, x35, x36, x37, x38, x39, x40, x41, x42, x43, x44, x45, x46, rfl, hB, i0, i1, i2, i3, i4, i5, i6, i7, i8, i9, i10, i11, i12, i13, i14, i15, i16⟩ K hK
      simp [Region.binds] at he
      obtain rfl := i8 (by simp [he])
      obtain rfl := i9 (by simp [he])
      obtain rfl := i10 (by simp [he])
      refine step_wpG (by kernel_rfl) (wp_call (f := 15) (args := #[e.v, t.v]) (by kernel_rfl) (P3.out wx (Hb.out.trans (hB.mono Hb.out.size))) ?_)
      rintro en w1 ⟨rfl, hb⟩
      exact ⟨_, rfl, hK _ _ ⟨x30, x31, x32, x33, x34, x35, x36, x37, _, _, _, _, x42, x43, x44, x45, x46, rfl, hB.trans (hb.mono hB.size), i0, i1, i2, i3, i4, i5, i6, i7, fun _ => rfl, fun _ => rfl, fun _ => rfl, fun _ => rfl, i12, i13, i14, i15, i16⟩⟩
    · rintro done a wx hd he ⟨x30, x31, x32, x33, x34, x35, x36, x37, x38, x39, x40, x41, x42, x43, x44, x45, x46, rfl, hB, i0, i1, i2, i3, i4, i5, i6, i7, i8, i9, i10, i11, i12, i13, i14, i15, i16⟩ K hK
      simp [Region.binds] at he
      obtain rfl := i8 (by simp [he])
      refine step_wpG (by kernel_rfl) (wp_load_row 29 _ rfl w.heap.size rfl _ _ _ _ (Be.out.to hB) uE rfl sE ?_)
      exact hK _ _ ⟨x30, x31, x32, x33, x34, x35, x36, x37, _, x39, x40, x41, _, x43, x44, x45, x46, rfl, hB, i0, i1, i2, i3, i4, i5, i6, i7, fun _ => rfl, i9, i10, i11, fun _ => rfl, i13, i14, i15, i16⟩
    · rintro done a wx hd he ⟨x30, x31, x32, x33, x34, x35, x36, x37, x38, x39, x40, x41, x42, x43, x44, x45, x46, rfl, hB, i0, i1, i2, i3, i4, i5, i6, i7, i8, i9, i10, i11, i12, i13, i14, i15, i16⟩ K hK
      simp [Region.binds] at he
      obtain rfl := i8 (by simp [he])
      refine step_wpG (by kernel_rfl) (wp_load_row 29 _ rfl (w.heap.size + 1) rfl _ _ _ _ (Bt.out.to hB) uE rfl sE ?_)
      exact hK _ _ ⟨x30, x31, x32, x33, x34, x35, x36, x37, _, x39, x40, x41, x42, _, x44, x45, x46, rfl, hB, i0, i1, i2, i3, i4, i5, i6, i7, fun _ => rfl, i9, i10, i11, i12, fun _ => rfl, i14, i15, i16⟩
    · rintro done a wx hd he ⟨x30, x31, x32, x33, x34, x35, x36, x37, x38, x39, x40, x41, x42, x43, x44, x45, x46, rfl, hB, i0, i1, i2, i3, i4, i5, i6, i7, i8, i9, i10, i11, i12, i13, i14, i15, i16⟩ K hK
      simp [Region.binds] at he
      obtain rfl := i8 (by simp [he])
      obtain rfl := i12 (by simp [he])
      obtain rfl := i13 (by simp [he])
      refine step_wpG (by kernel_rfl) (wp_call (f := 16) (args := #[e.v, t.v]) (by kernel_rfl) (P4.out wx (Hb.out.trans (hB.mono Hb.out.size))) ?_)
      rintro en w1 ⟨rfl, hb⟩
      exact ⟨_, rfl, hK _ _ ⟨x30, x31, x32, x33, x34, x35, x36, x37, _, x39, x40, x41, _, _, _, x45, x46, rfl, hB.trans (hb.mono hB.size), i0, i1, i2, i3, i4, i5, i6, i7, fun _ => rfl, i9, i10, i11, fun _ => rfl, fun _ => rfl, fun _ => rfl, i15, i16⟩⟩
    · rintro done a wx hd he ⟨x30, x31, x32, x33, x34, x35, x36, x37, x38, x39, x40, x41, x42, x43, x44, x45, x46, rfl, hB, i0, i1, i2, i3, i4, i5, i6, i7, i8, i9, i10, i11, i12, i13, i14, i15, i16⟩ K hK
      simp [Region.binds] at he
      obtain rfl := i8 (by simp [he])
      obtain rfl := i11 (by simp [he])
      obtain rfl := i14 (by simp [he])
      refine step_wpG (by kernel_rfl) (wp_value (.bool false) (by cases s <;> kernel_rfl) ?_)
      exact hK _ _ ⟨x30, x31, x32, x33, x34, x35, x36, x37, _, x39, x40, _, x42, x43, _, _, x46, rfl, hB, i0, i1, i2, i3, i4, i5, i6, i7, fun _ => rfl, i9, i10, fun _ => rfl, i12, i13, fun _ => rfl, fun _ => rfl, i16⟩
    · rintro done a wx hd he ⟨x30, x31, x32, x33, x34, x35, x36, x37, x38, x39, x40, x41, x42, x43, x44, x45, x46, rfl, hB, i0, i1, i2, i3, i4, i5, i6, i7, i8, i9, i10, i11, i12, i13, i14, i15, i16⟩ K hK
      simp [Region.binds] at he
      obtain rfl := i8 (by simp [he])
      obtain rfl := i15 (by simp [he])
      refine step_wp rfl (wp_value (.bool false) (by kernel_rfl) ?_)
      exact hK _ _ ⟨x30, x31, x32, x33, x34, x35, x36, x37, _, x39, x40, x41, x42, x43, x44, _, _, rfl, hB, i0, i1, i2, i3, i4, i5, i6, i7, fun _ => rfl, i9, i10, i11, i12, i13, i14, fun _ => rfl, fun _ => rfl⟩
  · rintro done a wx hd ⟨x30, x31, x32, x33, x34, x35, x36, x37, x38, x39, x40, x41, x42, x43, x44, x45, x46, rfl, hB, i0, i1, i2, i3, i4, i5, i6, i7, i8, i9, i10, i11, i12, i13, i14, i15, i16⟩
    have dd : ∀ j, j < 17 → done j = true := fun j h => hd j (by simpa using h)
    obtain rfl := i0 (dd 0 (by omega))
    obtain rfl := i1 (dd 1 (by omega))
    obtain rfl := i2 (dd 2 (by omega))
    obtain rfl := i3 (dd 3 (by omega))
    obtain rfl := i4 (dd 4 (by omega))
    obtain rfl := i5 (dd 5 (by omega))
    obtain rfl := i6 (dd 6 (by omega))
    obtain rfl := i7 (dd 7 (by omega))
    obtain rfl := i8 (dd 8 (by omega))
    obtain rfl := i9 (dd 9 (by omega))
    obtain rfl := i10 (dd 10 (by omega))
    obtain rfl := i11 (dd 11 (by omega))
    obtain rfl := i12 (dd 12 (by omega))
    obtain rfl := i13 (dd 13 (by omega))
    obtain rfl := i14 (dd 14 (by omega))
    obtain rfl := i15 (dd 15 (by omega))
    obtain rfl := i16 (dd 16 (by omega))
    clear i0 i1 i2 i3 i4 i5 i6 i7 i8 i9 i10 i11 i12 i13 i14 i15 i16 dd
    have HB5 := Lib.hid (show Blk wx w.heap.size 29 _ ∧ Blk wx (w.heap.size + 1) 29 _ ∧ Below w.heap.size w wx from ⟨HB4.out.1.to hB, HB4.out.2.1.to hB, HB4.out.2.2.trans (hB.mono HB4.out.2.2.size)⟩)
    clear hB HB4 Be Bt Hb uE sE P3 P4
    obtain ⟨b1, b2, b3⟩ := HB5.out
    have c0 := b1.cell 0
    have c1 := b1.cell 1
    have c2 := b1.cell 2
    have c3 := b1.cell 3
    have c4 := b1.cell 4
    have c5 := b1.cell 5
    have c6 := b1.cell 6
    have c7 := b1.cell 7
    have c8 := b1.cell 8
    have c9 := b1.cell 9
    have c10 := b1.cell 10
    have d0 := b2.cell 0
    have d1 := b2.cell 1
    have d2 := b2.cell 2
    have d3 := b2.cell 3
    have d4 := b2.cell 4
    have d5 := b2.cell 5
    have d6 := b2.cell 6
    have d7 := b2.cell 7
    have d8 := b2.cell 8
    have d9 := b2.cell 9
    have d10 := b2.cell 10
    simp at c0 c1 c2 c3 c4 c5 c6 c7 c8 c9 c10 d0 d1 d2 d3 d4 d5 d6 d7 d8 d9 d10
    clear b1 b2 b3
    go_wp2_with fail
    refine (P5.out _ HB5.out.2.2).mono ?_
    rintro en w5 ⟨rfl, hb⟩
    have HB6 := Lib.hid (show Blk w5 w.heap.size 29 _ ∧ Blk w5 (w.heap.size + 1) 29 _ ∧ Below w.heap.size w w5 from ⟨HB5.out.1.to hb, HB5.out.2.1.to hb, HB5.out.2.2.trans (hb.mono HB5.out.2.2.size)⟩)
    clear hb HB5 P5 c0 d0 c1 d1 c2 d2 c3 d3 c4 d4 c5 d5 c6 d6 c7 d7 c8 d8 c9 d9 c10 d10
    obtain ⟨b1, b2, b3⟩ := HB6.out
    have c0 := b1.cell 0
    have c1 := b1.cell 1
    have c2 := b1.cell 2
    have c3 := b1.cell 3
    have c4 := b1.cell 4
    have c5 := b1.cell 5
    have c6 := b1.cell 6
    have c7 := b1.cell 7
    have c8 := b1.cell 8
    have c9 := b1.cell 9
    have c10 := b1.cell 10
    have d0 := b2.cell 0
    have d1 := b2.cell 1
    have d2 := b2.cell 2
    have d3 := b2.cell 3
    have d4 := b2.cell 4
    have d5 := b2.cell 5
    have d6 := b2.cell 6
    have d7 := b2.cell 7
    have d8 := b2.cell 8
    have d9 := b2.cell 9
    have d10 := b2.cell 10
    simp at c0 c1 c2 c3 c4 c5 c6 c7 c8 c9 c10 d0 d1 d2 d3 d4 d5 d6 d7 d8 d9 d10
    clear b1 b2 b3
    go_wp2_with fail
    refine (P6.out _ HB6.out.2.2).mono ?_
    rintro en w6 ⟨rfl, hb⟩
    have HB7 := Lib.hid (HB6.out.2.2.trans (hb.mono HB6.out.2.2.size))
    clear hb HB6 P6 c0 d0 c1 d1 c2 d2 c3 d3 c4 d4 c5 d5 c6 d6 c7 d7 c8 d8 c9 d9 c10 d10
    have hnn : (num b' == num b') = true := by simp
    go_wp2_with fail
    refine (hA.out _ HB7.out).mono ?_
    rintro en w7 ⟨rfl, hb⟩
    have Hf := Lib.hid (HB7.out.trans (hb.mono HB7.out.size))
    clear hb
    go_wp2_with fail
    go_ret
    exact ⟨rfl, Hf.out⟩
end Go.Proofs.YtbhmeapnmpgggaaGreatDoor.errsCompares
