/- R.Equal of layer 1: the walk. Conditions: both trees lie in the world and are right. -/
import Derived.Test.YtbhmeapnmpgggaaGreatDoorBoxEqual
import Derived.Test.YtbhmeapnmpgggaaGreatDoorReg
import Derived.Lib.SmallJoins
namespace Go.Proofs.YtbhmeapnmpgggaaGreatDoor
open Go.RowKit Go.Joins

def ReqP (r : Bool × Bool) (w : World) (e : Ending) (w2 : World) : Prop := e = .returned (.tuple #[.bool r.1, .int .i64 (if r.2 then 10 else 0)]) ∧ Below w.heap.size w w2
theorem ReqP.mk {r : Bool × Bool} {w w' : World} {b : Bool} {n : Int} (hb : Below w.heap.size w w') (h1 : r.1 = b) (h2 : (if r.2 then (10 : Int) else 0) = n) : ReqP r w (.returned (.tuple #[.bool b, .int .i64 n])) w' := ⟨by rw [h1, h2], hb⟩
theorem beqFloat (a b : Nat) : ∀ w, (binOp .eql 119 (.float .f64 a) (.float .f64 b)).run Tryz.prog w = .ok (.bool (Op.floatEq .f64 a b)) w := fun _ => by kernel_rfl

section
variable (k i b : Int) (t : ByteArray) (A : Option Addr) (c : Nat) (l : List D) (k' i' b' : Int) (t' : ByteArray) (A' : Option Addr) (c' : Nat) (l' : List D) (w : World)
theorem two_alloc (o1 o2 : Obj) : Below w.heap.size w ((w.alloc o1).alloc o2) := ((Below.refl _ _).alloc (Nat.le_refl _) _).alloc (by simp) _

set_option maxHeartbeats 2000000 in
set_option maxRecDepth 100000 in
theorem req1_ne (h : k ≠ k') : Calls Tryz.prog 49 #[(D.mk k i b t A c l).v, (D.mk k' i' b' t' A' c' l').v] w (ReqP ((D.mk k i b t A c l).req (D.mk k' i' b' t' A' c' l')) w) := by
  have hr : (D.mk k i b t A c l).req (D.mk k' i' b' t' A' c' l') = (false, false) := D.req_ne h
  have hal := Lib.hid (two_alloc w)
  rw [hr]
  clear hr
  simp only [D.v, D.cs, D.k_mk, D.i_mk, D.b_mk, D.t_mk, D.A_mk, D.c_mk, D.l_mk]
  generalize l.length = L, l'.length = L' at *
  go_enter Tryz.func49, Tryz.ntmps49
  go_wp2_with fail
  go_ret2
  exact .mk (hal.out _ _) rfl rfl

set_option maxHeartbeats 2000000 in
set_option maxRecDepth 100000 in
theorem req1_bad (h : k = 7 ∨ k = 8) : Calls Tryz.prog 49 #[(D.mk k i b t A c l).v, (D.mk k i' b' t' A' c' l').v] w (ReqP ((D.mk k i b t A c l).req (D.mk k i' b' t' A' c' l')) w) := by
  have hr : (D.mk k i b t A c l).req (D.mk k i' b' t' A' c' l') = (false, true) := by rw [D.req, if_neg (by simp), if_pos h]
  have hal := Lib.hid (two_alloc w)
  rw [hr]
  clear hr
  simp only [D.v, D.cs, D.k_mk, D.i_mk, D.b_mk, D.t_mk, D.A_mk, D.c_mk, D.l_mk]
  generalize l.length = L, l'.length = L' at *
  rcases h with rfl | rfl
  all_goals
    go_enter Tryz.func49, Tryz.ntmps49
    go_wp2_with fail
    go_ret2
    exact .mk (hal.out _ _) rfl rfl

set_option maxHeartbeats 2000000 in
set_option maxRecDepth 100000 in
theorem req1_float : Calls Tryz.prog 49 #[(D.mk 3 i b t A c l).v, (D.mk 3 i' b' t' A' c' l').v] w (ReqP ((D.mk 3 i b t A c l).req (D.mk 3 i' b' t' A' c' l')) w) := by
  have hr : (D.mk 3 i b t A c l).req (D.mk 3 i' b' t' A' c' l') = (D.feq b b', false) := by rw [D.req]; rfl
  have hal := Lib.hid (two_alloc w)
  have hf := fromBits
  rw [hr]
  clear hr
  simp only [D.v, D.cs, D.k_mk, D.i_mk, D.b_mk, D.t_mk, D.A_mk, D.c_mk, D.l_mk]
  generalize l.length = L, l'.length = L' at *
  go_enter Tryz.func49, Tryz.ntmps49
  go_wp2_with fail
  go_quiet (fail)
  go_wp2_with fail
  go_ret2
  exact .mk ((hal.out _ _).trans (below_draws _ _ _)) rfl rfl

set_option maxHeartbeats 2000000 in
set_option maxRecDepth 100000 in
theorem req1_plain (h3 : k ≠ 3) (h7 : k ≠ 7) (h8 : k ≠ 8) (h9 : k ≠ 9) : Calls Tryz.prog 49 #[(D.mk k i b t A c l).v, (D.mk k i' b' t' A' c' l').v] w (ReqP ((D.mk k i b t A c l).req (D.mk k i' b' t' A' c' l')) w) := by
  have hr : (D.mk k i b t A c l).req (D.mk k i' b' t' A' c' l') = (decide (i = i') && decide (t = t'), false) := D.req_plain rfl h3 h7 h8 h9
  have hal := Lib.hid (two_alloc w)
  rw [hr]
  clear hr
  simp only [D.v, D.cs, D.k_mk, D.i_mk, D.b_mk, D.t_mk, D.A_mk, D.c_mk, D.l_mk]
  generalize l.length = L, l'.length = L' at *
  by_cases hi : i = i'
  · subst hi
    by_cases ht : t = t'
    · subst ht
      go_enter Tryz.func49, Tryz.ntmps49
      go_wp2_with fail
      go_ret2
      exact .mk (hal.out _ _) (by simp) rfl
    · have ht' : ¬ t.toList = t'.toList := fun e => ht (toList_inj e)
      have Ht := Lib.hid ht
      clear ht
      go_enter Tryz.func49, Tryz.ntmps49
      go_wp2_with fail
      go_ret2
      exact .mk (hal.out _ _) (by simp [Ht.out, ht']) rfl
  · go_enter Tryz.func49, Tryz.ntmps49
    go_wp2_with fail
    go_ret2
    exact .mk (hal.out _ _) (by simp [hi]) rfl
end

set_option maxHeartbeats 4000000 in
set_option maxRecDepth 100000 in
theorem req1_pair (n : Nat) (ih : ∀ (a b : D) (w : World), a.size ≤ n → a.In w → b.In w → a.right = true → b.right = true → Calls Tryz.prog 49 #[a.v, b.v] w (ReqP (a.req b) w))
    (i b : Int) (t : ByteArray) (A : Option Addr) (c : Nat) (x y : D) (i' b' : Int) (t' : ByteArray) (A' : Option Addr) (c' : Nat) (x' y' : D) (w : World) (hsx : x.size ≤ n) (hsy : y.size ≤ n)
    (ha : (D.mk 9 i b t A c [x, y]).In w) (hb : (D.mk 9 i' b' t' A' c' [x', y']).In w) (hx : x.right = true) (hy : y.right = true) (hx' : x'.right = true) (hy' : y'.right = true) :
    Calls Tryz.prog 49 #[(D.mk 9 i b t A c [x, y]).v, (D.mk 9 i' b' t' A' c' [x', y']).v] w (ReqP ((D.mk 9 i b t A c [x, y]).req (D.mk 9 i' b' t' A' c' [x', y'])) w) := by
  have hr : (D.mk 9 i b t A c [x, y]).req (D.mk 9 i' b' t' A' c' [x', y']) = if (x.req x').2 then (false, true) else if (x.req x').1 then (y.req y') else (false, false) := by
    rw [D.req, if_neg (by simp), if_neg (by simp), if_neg (by simp), if_pos rfl]
    simp only [D.l_mk, D.reqL]
    have := D.req_snd _ y y' (Nat.le_refl _)
    generalize y.req y' = q at *
    obtain ⟨q1, q2⟩ := q
    cases q1 <;> cases q2 <;> simp at this ⊢
  have hsn := D.req_snd _ x x' (Nat.le_refl _)
  obtain ⟨⟨ad, hA, ha0⟩, hai0⟩ := ha.at_ (q := 0) (e := x) rfl
  obtain ⟨⟨ad2, hA2, ha1⟩, hai1⟩ := ha.at_ (q := 1) (e := y) rfl
  obtain ⟨⟨bd, hB, hb0⟩, hbi0⟩ := hb.at_ (q := 0) (e := x') rfl
  obtain ⟨⟨bd2, hB2, hb1⟩, hbi1⟩ := hb.at_ (q := 1) (e := y') rfl
  simp only [D.A_mk] at hA hA2 hB hB2
  rw [hA] at hA2
  rw [hB] at hB2
  injection hA2 with hA2
  injection hB2 with hB2
  subst hA2 hB2 hA hB
  have H0 := Lib.hid (fun W (h : Below w.heap.size w W) => ih x x' W hsx (hai0.below h) (hbi0.below h) hx hx')
  have H1 := Lib.hid (fun W (h : Below w.heap.size w W) => ih y y' W hsy (hai1.below h) (hbi1.below h) hy hy')
  have Hat := Lib.hid (And.intro ha0 (And.intro ha1 (And.intro hb0 hb1)))
  have hrng := ha.rng
  obtain ⟨_, _, _, _, hlc, hcc⟩ := hrng
  have hrng' := hb.rng
  obtain ⟨_, _, _, _, hlc', hcc'⟩ := hrng'
  simp only [D.l_mk, D.c_mk, List.length_cons, List.length_nil] at hlc hcc hlc' hcc'
  have hW : ∀ W, W = ((w.alloc (.cells #[.int .i64 9, .int .i64 i, .int .u64 b, .string t, .slice (some ad) 2 c] 25)).alloc (.cells #[.int .i64 9, .int .i64 i', .int .u64 b', .string t', .slice (some bd) 2 c'] 25)) →
      Blk W w.heap.size 25 #[.int .i64 9, .int .i64 i, .int .u64 b, .string t, .slice (some ad) 2 c] ∧ Blk W (w.heap.size + 1) 25 #[.int .i64 9, .int .i64 i', .int .u64 b', .string t', .slice (some bd) 2 c'] ∧ Below w.heap.size w W := fun W h => by
    subst h
    exact ⟨(Blk.new _ _ _).alloc _, Blk.new' (by simp) _ _, two_alloc _ _ _⟩
  have HW := Lib.hid hW
  clear hW ha hb ih hsx hsy hx hy hx' hy' ha0 ha1 hb0 hb1 hai0 hai1 hbi0 hbi1
  rw [hr]
  clear hr
  simp only [D.v, D.cs, D.k_mk, D.i_mk, D.b_mk, D.t_mk, D.A_mk, D.c_mk, D.l_mk, List.length_cons, List.length_nil, Nat.zero_add, Nat.reduceAdd]
  have hfin : ∀ r b n w', Below w.heap.size w w' → r = (if (x.req x').2 then (false, true) else if (x.req x').1 then (y.req y') else (false, false)) → r.1 = b → (if r.2 then (10 : Int) else 0) = n → ReqP (if (x.req x').2 then (false, true) else if (x.req x').1 then (y.req y') else (false, false)) w (.returned (.tuple #[.bool b, .int .i64 n])) w' := fun r b n w' h1 h2 h3 h4 => by rw [← h2]; exact .mk h1 h3 h4
  have HF := Lib.hid hfin
  clear hfin
  generalize hR : ReqP (if (x.req x').2 then (false, true) else if (x.req x').1 then (y.req y') else (false, false)) w = R at HF ⊢
  clear hR
  go_enter Tryz.func49, Tryz.ntmps49
  go_upto_region 10 with fail
  obtain ⟨b1, b2, b3⟩ := HW.out _ rfl
  clear HW
  generalize (w.alloc _).alloc _ = W at *
  have uD := Tryz.underlying25
  have uS := Tryz.underlying23
  have sD : (Tryz.prog.info? 25).map (·.size) = some 5 := by kernel_rfl
  have Hc : Hid (∀ w', Below W.heap.size W w' → w'.cell? ⟨w.heap.size, 4, none⟩ = some (.slice (some ad) 2 c)) := Lib.hid fun w' h => by
    have := (b1.below h b1.lt).cell 4
    simpa using this
  have Hd : Hid (∀ w', Below W.heap.size W w' → w'.cell? ⟨w.heap.size + 1, 4, none⟩ = some (.slice (some bd) 2 c')) := Lib.hid fun w' h => by
    have := (b2.below h b2.lt).cell 4
    simpa using this
  have Ha : Hid (∀ w', Below W.heap.size W w' → At w' (ad.add (0 * 5)) x.cs) := Lib.hid fun w' h => (show At w (ad.add (0 * 5)) x.cs from Hat.out.1).below (b3.trans (h.mono b3.size))
  have Hb2 : Hid (∀ w', Below W.heap.size W w' → At w' (bd.add (0 * 5)) x'.cs) := Lib.hid fun w' h => (show At w (bd.add (0 * 5)) x'.cs from Hat.out.2.2.1).below (b3.trans (h.mono b3.size))
  obtain ⟨r1, er1⟩ : ∃ b, (x.req x').1 = b := ⟨_, rfl⟩
  obtain ⟨nr1, enr1⟩ : ∃ n : Int, (if (x.req x').2 then (10 : Int) else 0) = n := ⟨_, rfl⟩
  have HR : Hid (∀ w', Below W.heap.size W w' → Calls Tryz.prog 49 #[x.v, x'.v] w' fun e w2 => e = .returned (.tuple #[.bool r1, .int .i64 nr1]) ∧ Below w'.heap.size w' w2) := Lib.hid fun w' h => (H0.out w' (b3.trans (h.mono b3.size))).mono fun e w2 h => ⟨by rw [h.1, er1, enr1], h.2⟩
  have Er1 := Lib.hid (And.intro er1 enr1)
  have Hb := Lib.hid (And.intro b1 (And.intro b2 b3))
  clear b1 b2 b3 er1 enr1
  refine wp_region_each (by kernel_rfl) (by kernel_rfl) (fun done a w' => ∃ x6 x7 x29 x30 x31 x32 x33 x34 x35 x36 x37 x38 x39 x40, a = ⟨#[Value.agg #[Value.int IntKind.i64 9, Value.int IntKind.i64 i, Value.int IntKind.u64 b, Value.string t, Value.slice (some ad) 2 c], Value.agg #[Value.int IntKind.i64 9, Value.int IntKind.i64 i', Value.int IntKind.u64 b', Value.string t', Value.slice (some bd) 2 c'], Value.pointer (some ⟨w.heap.size, 0, none⟩), Value.pointer (some ⟨w.heap.size + 1, 0, none⟩), Value.bool false, Value.int IntKind.i64 0, x6, x7, Value.pointer (some ⟨w.heap.size, 0, none⟩), Value.int IntKind.i64 9, Value.pointer (some ⟨w.heap.size + 1, 0, none⟩), Value.int IntKind.i64 9, Value.bool false, Value.pointer (some ⟨w.heap.size, 0, none⟩), Value.int IntKind.i64 9, Value.bool false, Value.bool false, Value.bool false, Value.bool false, Value.bool false, undef, undef, undef, undef, undef, undef, undef, Value.bool true, Value.bool true, x29, x30, x31, x32, x33, x34, x35, x36, x37, x38, x39, x40, undef, undef, undef, undef, undef, undef, undef, undef, undef, undef, undef, undef, undef, undef, undef, undef, undef, undef, undef, undef, undef, undef, undef, undef, undef, undef, undef, undef, undef, undef], []⟩ ∧ Below W.heap.size W w' ∧ (done 0 = true → x30 = .pointer (some ⟨w.heap.size, 4, none⟩)) ∧ (done 1 = true → x31 = .slice (some ad) 2 c) ∧ (done 2 = true → x32 = .pointer (some (ad.add (0 * 5)))) ∧ (done 3 = true → x33 = x.v) ∧ (done 4 = true → x34 = .pointer (some ⟨w.heap.size + 1, 4, none⟩)) ∧ (done 5 = true → x35 = .slice (some bd) 2 c') ∧ (done 6 = true → x36 = .pointer (some (bd.add (0 * 5)))) ∧ (done 7 = true → x37 = x'.v) ∧ (done 8 = true → x38 = .tuple #[.bool r1, .int .i64 nr1]) ∧ (done 9 = true → x29 = .tuple #[.bool r1, .int .i64 nr1]) ∧ (done 10 = true → x39 = .bool r1) ∧ (done 11 = true → x40 = .int .i64 nr1) ∧ (done 12 = true → x6 = .bool r1) ∧ (done 13 = true → x7 = .int .i64 nr1)) ?_ ?_ ?_
  · refine ⟨_, _, _, _, _, _, _, _, _, _, _, _, _, _, rfl, (Below.refl _ _).drew, ?_⟩
    simp
  · refine ⟨?_, ?_, ?_, ?_, ?_, ?_, ?_, ?_, ?_, ?_, ?_, ?_, ?_, ?_, trivial⟩
    · rintro done a wx hd he ⟨x6, x7, x29, x30, x31, x32, x33, x34, x35, x36, x37, x38, x39, x40, rfl, hB, i0, i1, i2, i3, i4, i5, i6, i7, i8, i9, i10, i11, i12, i13⟩ K hK
      refine step_wp rfl (wp_value (.pointer (some ⟨w.heap.size, 4, none⟩)) (by kernel_rfl) ?_)
      exact hK _ _ ⟨x6, x7, x29, _, x31, x32, x33, x34, x35, x36, x37, x38, x39, x40, rfl, hB, fun _ => rfl, i1, i2, i3, i4, i5, i6, i7, i8, i9, i10, i11, i12, i13⟩
    · rintro done a wx hd he ⟨x6, x7, x29, x30, x31, x32, x33, x34, x35, x36, x37, x38, x39, x40, rfl, hB, i0, i1, i2, i3, i4, i5, i6, i7, i8, i9, i10, i11, i12, i13⟩ K hK
      simp [Region.binds] at he
      obtain rfl := i0 (by simp [he])
      refine step_wp rfl (wp_load_cell 23 _ rfl ⟨w.heap.size, 4, none⟩ rfl _ _ (Hc.out wx hB) uS rfl ?_)
      exact hK _ _ ⟨x6, x7, x29, _, _, x32, x33, x34, x35, x36, x37, x38, x39, x40, rfl, hB, fun _ => rfl, fun _ => rfl, i2, i3, i4, i5, i6, i7, i8, i9, i10, i11, i12, i13⟩
    · rintro done a wx hd he ⟨x6, x7, x29, x30, x31, x32, x33, x34, x35, x36, x37, x38, x39, x40, rfl, hB, i0, i1, i2, i3, i4, i5, i6, i7, i8, i9, i10, i11, i12, i13⟩ K hK
      simp [Region.binds] at he
      obtain rfl := i1 (by simp [he])
      refine step_wp rfl (wp_value (.pointer (some (ad.add (0 * 5)))) (by kernel_rfl) ?_)
      exact hK _ _ ⟨x6, x7, x29, x30, _, _, x33, x34, x35, x36, x37, x38, x39, x40, rfl, hB, i0, fun _ => rfl, fun _ => rfl, i3, i4, i5, i6, i7, i8, i9, i10, i11, i12, i13⟩
    · rintro done a wx hd he ⟨x6, x7, x29, x30, x31, x32, x33, x34, x35, x36, x37, x38, x39, x40, rfl, hB, i0, i1, i2, i3, i4, i5, i6, i7, i8, i9, i10, i11, i12, i13⟩ K hK
      simp [Region.binds] at he
      obtain rfl := i2 (by simp [he])
      refine step_wp rfl (wp_load_at 25 _ rfl (ad.add (0 * 5)) rfl _ _ (Ha.out wx hB) uD rfl sD ?_)
      exact hK _ _ ⟨x6, x7, x29, x30, x31, _, _, x34, x35, x36, x37, x38, x39, x40, rfl, hB, i0, i1, fun _ => rfl, fun _ => rfl, i4, i5, i6, i7, i8, i9, i10, i11, i12, i13⟩
    · rintro done a wx hd he ⟨x6, x7, x29, x30, x31, x32, x33, x34, x35, x36, x37, x38, x39, x40, rfl, hB, i0, i1, i2, i3, i4, i5, i6, i7, i8, i9, i10, i11, i12, i13⟩ K hK
      refine step_wp rfl (wp_value (.pointer (some ⟨w.heap.size + 1, 4, none⟩)) (by kernel_rfl) ?_)
      exact hK _ _ ⟨x6, x7, x29, x30, x31, x32, x33, _, x35, x36, x37, x38, x39, x40, rfl, hB, i0, i1, i2, i3, fun _ => rfl, i5, i6, i7, i8, i9, i10, i11, i12, i13⟩
    · rintro done a wx hd he ⟨x6, x7, x29, x30, x31, x32, x33, x34, x35, x36, x37, x38, x39, x40, rfl, hB, i0, i1, i2, i3, i4, i5, i6, i7, i8, i9, i10, i11, i12, i13⟩ K hK
      simp [Region.binds] at he
      obtain rfl := i4 (by simp [he])
      refine step_wp rfl (wp_load_cell 23 _ rfl ⟨w.heap.size + 1, 4, none⟩ rfl _ _ (Hd.out wx hB) uS rfl ?_)
      exact hK _ _ ⟨x6, x7, x29, x30, x31, x32, x33, _, _, x36, x37, x38, x39, x40, rfl, hB, i0, i1, i2, i3, fun _ => rfl, fun _ => rfl, i6, i7, i8, i9, i10, i11, i12, i13⟩
    · rintro done a wx hd he ⟨x6, x7, x29, x30, x31, x32, x33, x34, x35, x36, x37, x38, x39, x40, rfl, hB, i0, i1, i2, i3, i4, i5, i6, i7, i8, i9, i10, i11, i12, i13⟩ K hK
      simp [Region.binds] at he
      obtain rfl := i5 (by simp [he])
      refine step_wp rfl (wp_value (.pointer (some (bd.add (0 * 5)))) (by kernel_rfl) ?_)
      exact hK _ _ ⟨x6, x7, x29, x30, x31, x32, x33, x34, _, _, x37, x38, x39, x40, rfl, hB, i0, i1, i2, i3, i4, fun _ => rfl, fun _ => rfl, i7, i8, i9, i10, i11, i12, i13⟩
    · rintro done a wx hd he ⟨x6, x7, x29, x30, x31, x32, x33, x34, x35, x36, x37, x38, x39, x40, rfl, hB, i0, i1, i2, i3, i4, i5, i6, i7, i8, i9, i10, i11, i12, i13⟩ K hK
      simp [Region.binds] at he
      obtain rfl := i6 (by simp [he])
      refine step_wp rfl (wp_load_at 25 _ rfl (bd.add (0 * 5)) rfl _ _ (Hb2.out wx hB) uD rfl sD ?_)
      exact hK _ _ ⟨x6, x7, x29, x30, x31, x32, x33, x34, x35, _, _, x38, x39, x40, rfl, hB, i0, i1, i2, i3, i4, i5, fun _ => rfl, fun _ => rfl, i8, i9, i10, i11, i12, i13⟩
    · rintro done a wx hd he ⟨x6, x7, x29, x30, x31, x32, x33, x34, x35, x36, x37, x38, x39, x40, rfl, hB, i0, i1, i2, i3, i4, i5, i6, i7, i8, i9, i10, i11, i12, i13⟩ K hK
      simp [Region.binds] at he
      obtain rfl := i3 (by simp [he])
      obtain rfl := i7 (by simp [he])
      refine step_wp rfl (wp_call (f := 49) (args := #[x.v, x'.v]) (by kernel_rfl) (HR.out wx hB) ?_)
      rintro en w1 ⟨rfl, hb⟩
      exact ⟨_, rfl, hK _ _ ⟨x6, x7, x29, x30, x31, x32, _, x34, x35, x36, _, _, x39, x40, rfl, hB.trans (hb.mono hB.size), i0, i1, i2, fun _ => rfl, i4, i5, i6, fun _ => rfl, fun _ => rfl, i9, i10, i11, i12, i13⟩⟩
    · rintro done a wx hd he ⟨x6, x7, x29, x30, x31, x32, x33, x34, x35, x36, x37, x38, x39, x40, rfl, hB, i0, i1, i2, i3, i4, i5, i6, i7, i8, i9, i10, i11, i12, i13⟩ K hK
      simp [Region.binds] at he
      obtain rfl := i8 (by simp [he])
      refine step_wp rfl (wp_value (.tuple #[.bool r1, .int .i64 nr1]) (by kernel_rfl) ?_)
      exact hK _ _ ⟨x6, x7, _, x30, x31, x32, x33, x34, x35, x36, x37, _, x39, x40, rfl, hB, i0, i1, i2, i3, i4, i5, i6, i7, fun _ => rfl, fun _ => rfl, i10, i11, i12, i13⟩
    · rintro done a wx hd he ⟨x6, x7, x29, x30, x31, x32, x33, x34, x35, x36, x37, x38, x39, x40, rfl, hB, i0, i1, i2, i3, i4, i5, i6, i7, i8, i9, i10, i11, i12, i13⟩ K hK
      simp [Region.binds] at he
      obtain rfl := i9 (by simp [he])
      refine step_wp rfl (wp_value (.bool r1) (by kernel_rfl) ?_)
      exact hK _ _ ⟨x6, x7, _, x30, x31, x32, x33, x34, x35, x36, x37, x38, _, x40, rfl, hB, i0, i1, i2, i3, i4, i5, i6, i7, i8, fun _ => rfl, fun _ => rfl, i11, i12, i13⟩
    · rintro done a wx hd he ⟨x6, x7, x29, x30, x31, x32, x33, x34, x35, x36, x37, x38, x39, x40, rfl, hB, i0, i1, i2, i3, i4, i5, i6, i7, i8, i9, i10, i11, i12, i13⟩ K hK
      simp [Region.binds] at he
      obtain rfl := i9 (by simp [he])
      refine step_wp rfl (wp_value (.int .i64 nr1) (by kernel_rfl) ?_)
      exact hK _ _ ⟨x6, x7, _, x30, x31, x32, x33, x34, x35, x36, x37, x38, x39, _, rfl, hB, i0, i1, i2, i3, i4, i5, i6, i7, i8, fun _ => rfl, i10, fun _ => rfl, i12, i13⟩
    · rintro done a wx hd he ⟨x6, x7, x29, x30, x31, x32, x33, x34, x35, x36, x37, x38, x39, x40, rfl, hB, i0, i1, i2, i3, i4, i5, i6, i7, i8, i9, i10, i11, i12, i13⟩ K hK
      simp [Region.binds] at he
      obtain rfl := i10 (by simp [he])
      refine step_wp rfl (wp_value (.bool r1) (by kernel_rfl) ?_)
      exact hK _ _ ⟨_, x7, x29, x30, x31, x32, x33, x34, x35, x36, x37, x38, _, x40, rfl, hB, i0, i1, i2, i3, i4, i5, i6, i7, i8, i9, fun _ => rfl, i11, fun _ => rfl, i13⟩
    · rintro done a wx hd he ⟨x6, x7, x29, x30, x31, x32, x33, x34, x35, x36, x37, x38, x39, x40, rfl, hB, i0, i1, i2, i3, i4, i5, i6, i7, i8, i9, i10, i11, i12, i13⟩ K hK
      simp [Region.binds] at he
      obtain rfl := i11 (by simp [he])
      refine step_wp rfl (wp_value (.int .i64 nr1) (by kernel_rfl) ?_)
      exact hK _ _ ⟨x6, _, x29, x30, x31, x32, x33, x34, x35, x36, x37, x38, x39, _, rfl, hB, i0, i1, i2, i3, i4, i5, i6, i7, i8, i9, i10, fun _ => rfl, i12, fun _ => rfl⟩
  · rintro done a wx hd ⟨x6, x7, x29, x30, x31, x32, x33, x34, x35, x36, x37, x38, x39, x40, rfl, hB, i0, i1, i2, i3, i4, i5, i6, i7, i8, i9, i10, i11, i12, i13⟩
    have dd : ∀ j, j < 14 → done j = true := fun j h => hd j (by simpa using h)
    obtain rfl := i0 (dd 0 (by omega))
    obtain rfl := i1 (dd 1 (by omega))
    obtain rfl := i2 (dd 2 (by omega))
    obtain rfl := i3 (dd 3 (by omega))
    obtain rfl := i4 (dd 4 (by omega))
    obtain rfl := i5 (dd 5 (by omega))
    obtain rfl := i6 (dd 6 (by omega))
    obtain rfl := i7 (dd 7 (by omega))
    obtain rfl := i8 (dd 8 (by omega))
    obtain rfl := i9 (dd 9 (by omega))
    obtain rfl := i10 (dd 10 (by omega))
    obtain rfl := i11 (dd 11 (by omega))
    obtain rfl := i12 (dd 12 (by omega))
    obtain rfl := i13 (dd 13 (by omega))
    clear i0 i1 i2 i3 i4 i5 i6 i7 i8 i9 i10 i11 i12 i13 dd
    have b1 := Hb.out.1.below hB Hb.out.1.lt
    have b2 := Hb.out.2.1.below hB Hb.out.2.1.lt
    have b3 := Hb.out.2.2.trans (hB.mono Hb.out.2.2.size)
    clear hB hd Hb Ha Hb2 Hc Hd HR
    by_cases hr2 : (x.req x').2 = true
    · have hr1 : r1 = false := Er1.out.1.symm.trans (hsn hr2)
      have hn1 : nr1 = 10 := by rw [← Er1.out.2, if_pos hr2]
      have Hr2 := Lib.hid hr2
      have Hb := Lib.hid b3
      subst hr1 hn1
      clear hr2 b1 b2 b3
      go_wp2_with fail
      exact HF.out (false, true) _ _ _ Hb.out (by rw [Hr2.out]; rfl) rfl rfl
    · have hn1 : nr1 = 0 := by rw [← Er1.out.2, if_neg hr2]
      have Hr2 := Lib.hid hr2
      subst hn1
      clear hr2
      cases r1
      · have Hb := Lib.hid b3
        clear b1 b2 b3
        go_wp2_with fail
        exact HF.out (false, false) _ _ _ Hb.out (by rw [if_neg Hr2.out, Er1.out.1]; rfl) rfl rfl
      · go_upto_region 13 with fail
        have Hc : Hid (∀ w', Below wx.heap.size wx w' → w'.cell? ⟨w.heap.size, 4, none⟩ = some (.slice (some ad) 2 c)) := Lib.hid fun w' h => by
          have := (b1.below h b1.lt).cell 4
          simpa using this
        have Hd : Hid (∀ w', Below wx.heap.size wx w' → w'.cell? ⟨w.heap.size + 1, 4, none⟩ = some (.slice (some bd) 2 c')) := Lib.hid fun w' h => by
          have := (b2.below h b2.lt).cell 4
          simpa using this
        have Ha : Hid (∀ w', Below wx.heap.size wx w' → At w' (ad.add (1 * 5)) y.cs) := Lib.hid fun w' h => (show At w (ad.add (1 * 5)) y.cs from Hat.out.2.1).below (b3.trans (h.mono b3.size))
        have Hb2 : Hid (∀ w', Below wx.heap.size wx w' → At w' (bd.add (1 * 5)) y'.cs) := Lib.hid fun w' h => (show At w (bd.add (1 * 5)) y'.cs from Hat.out.2.2.2).below (b3.trans (h.mono b3.size))
        obtain ⟨r3, er3⟩ : ∃ b, (y.req y').1 = b := ⟨_, rfl⟩
        obtain ⟨nr3, enr3⟩ : ∃ n : Int, (if (y.req y').2 then (10 : Int) else 0) = n := ⟨_, rfl⟩
        have HR : Hid (∀ w', Below wx.heap.size wx w' → Calls Tryz.prog 49 #[y.v, y'.v] w' fun e w2 => e = .returned (.tuple #[.bool r3, .int .i64 nr3]) ∧ Below w'.heap.size w' w2) := Lib.hid fun w' h => (H1.out w' (b3.trans (h.mono b3.size))).mono fun e w2 h => ⟨by rw [h.1, er3, enr3], h.2⟩
        have Er3 := Lib.hid (And.intro er3 enr3)
        have Hb := Lib.hid b3
        clear b1 b2 b3 er3 enr3
        refine wp_region_each (by kernel_rfl) (by kernel_rfl) (fun done a w' => ∃ x4 x5 x48 x49 x50 x51 x52 x53 x54 x55 x56 x57 x58, a = ⟨#[Value.agg #[Value.int IntKind.i64 9, Value.int IntKind.i64 i, Value.int IntKind.u64 b, Value.string t, Value.slice (some ad) 2 c], Value.agg #[Value.int IntKind.i64 9, Value.int IntKind.i64 i', Value.int IntKind.u64 b', Value.string t', Value.slice (some bd) 2 c'], Value.pointer (some ⟨w.heap.size, 0, none⟩), Value.pointer (some ⟨w.heap.size + 1, 0, none⟩), x4, x5, Value.bool true, Value.int IntKind.i64 0, Value.pointer (some ⟨w.heap.size, 0, none⟩), Value.int IntKind.i64 9, Value.pointer (some ⟨w.heap.size + 1, 0, none⟩), Value.int IntKind.i64 9, Value.bool false, Value.pointer (some ⟨w.heap.size, 0, none⟩), Value.int IntKind.i64 9, Value.bool false, Value.bool false, Value.bool false, Value.bool false, Value.bool false, undef, undef, undef, undef, undef, undef, undef, Value.bool true, Value.bool true, Value.tuple #[Value.bool true, Value.int IntKind.i64 0], Value.pointer (some ⟨w.heap.size, 4, none⟩), Value.slice (some ad) 2 c, Value.pointer (some (ad.add (0 * 5))), x.v, Value.pointer (some ⟨w.heap.size + 1, 4, none⟩), Value.slice (some bd) 2 c', Value.pointer (some (bd.add (0 * 5))), x'.v, Value.tuple #[Value.bool true, Value.int IntKind.i64 0], Value.bool true, Value.int IntKind.i64 0, Value.int IntKind.i64 0, Value.bool false, Value.bool false, Value.bool true, Value.bool false, Value.bool false, undef, x48, x49, x50, x51, x52, x53, x54, x55, x56, x57, x58, undef, undef, undef, undef, undef, undef, undef, undef, undef, undef, undef, undef], []⟩ ∧ Below wx.heap.size wx w' ∧ (done 0 = true → x48 = .pointer (some ⟨w.heap.size, 4, none⟩)) ∧ (done 1 = true → x49 = .slice (some ad) 2 c) ∧ (done 2 = true → x50 = .pointer (some (ad.add (1 * 5)))) ∧ (done 3 = true → x51 = y.v) ∧ (done 4 = true → x52 = .pointer (some ⟨w.heap.size + 1, 4, none⟩)) ∧ (done 5 = true → x53 = .slice (some bd) 2 c') ∧ (done 6 = true → x54 = .pointer (some (bd.add (1 * 5)))) ∧ (done 7 = true → x55 = y'.v) ∧ (done 8 = true → x56 = .tuple #[.bool r3, .int .i64 nr3]) ∧ (done 9 = true → x57 = .bool r3) ∧ (done 10 = true → x58 = .int .i64 nr3) ∧ (done 11 = true → x4 = .bool r3) ∧ (done 12 = true → x5 = .int .i64 nr3)) ?_ ?_ ?_
        · refine ⟨_, _, _, _, _, _, _, _, _, _, _, _, _, rfl, (Below.refl _ _).drew, ?_⟩
          simp
        · refine ⟨?_, ?_, ?_, ?_, ?_, ?_, ?_, ?_, ?_, ?_, ?_, ?_, ?_, trivial⟩
          · rintro done a wz hd he ⟨x4, x5, x48, x49, x50, x51, x52, x53, x54, x55, x56, x57, x58, rfl, hB, i0, i1, i2, i3, i4, i5, i6, i7, i8, i9, i10, i11, i12⟩ K hK
            refine step_wp rfl (wp_value (.pointer (some ⟨w.heap.size, 4, none⟩)) (by kernel_rfl) ?_)
            exact hK _ _ ⟨x4, x5, _, x49, x50, x51, x52, x53, x54, x55, x56, x57, x58, rfl, hB, fun _ => rfl, i1, i2, i3, i4, i5, i6, i7, i8, i9, i10, i11, i12⟩
          · rintro done a wz hd he ⟨x4, x5, x48, x49, x50, x51, x52, x53, x54, x55, x56, x57, x58, rfl, hB, i0, i1, i2, i3, i4, i5, i6, i7, i8, i9, i10, i11, i12⟩ K hK
            simp [Region.binds] at he
            obtain rfl := i0 (by simp [he])
            refine step_wp rfl (wp_load_cell 23 _ rfl ⟨w.heap.size, 4, none⟩ rfl _ _ (Hc.out wz hB) uS rfl ?_)
            exact hK _ _ ⟨x4, x5, _, _, x50, x51, x52, x53, x54, x55, x56, x57, x58, rfl, hB, fun _ => rfl, fun _ => rfl, i2, i3, i4, i5, i6, i7, i8, i9, i10, i11, i12⟩
          · rintro done a wz hd he ⟨x4, x5, x48, x49, x50, x51, x52, x53, x54, x55, x56, x57, x58, rfl, hB, i0, i1, i2, i3, i4, i5, i6, i7, i8, i9, i10, i11, i12⟩ K hK
            simp [Region.binds] at he
            obtain rfl := i1 (by simp [he])
            refine step_wp rfl (wp_value (.pointer (some (ad.add (1 * 5)))) (by kernel_rfl) ?_)
            exact hK _ _ ⟨x4, x5, x48, _, _, x51, x52, x53, x54, x55, x56, x57, x58, rfl, hB, i0, fun _ => rfl, fun _ => rfl, i3, i4, i5, i6, i7, i8, i9, i10, i11, i12⟩
          · rintro done a wz hd he ⟨x4, x5, x48, x49, x50, x51, x52, x53, x54, x55, x56, x57, x58, rfl, hB, i0, i1, i2, i3, i4, i5, i6, i7, i8, i9, i10, i11, i12⟩ K hK
            simp [Region.binds] at he
            obtain rfl := i2 (by simp [he])
            refine step_wp rfl (wp_load_at 25 _ rfl (ad.add (1 * 5)) rfl _ _ (Ha.out wz hB) uD rfl sD ?_)
            exact hK _ _ ⟨x4, x5, x48, x49, _, _, x52, x53, x54, x55, x56, x57, x58, rfl, hB, i0, i1, fun _ => rfl, fun _ => rfl, i4, i5, i6, i7, i8, i9, i10, i11, i12⟩
          · rintro done a wz hd he ⟨x4, x5, x48, x49, x50, x51, x52, x53, x54, x55, x56, x57, x58, rfl, hB, i0, i1, i2, i3, i4, i5, i6, i7, i8, i9, i10, i11, i12⟩ K hK
            refine step_wp rfl (wp_value (.pointer (some ⟨w.heap.size + 1, 4, none⟩)) (by kernel_rfl) ?_)
            exact hK _ _ ⟨x4, x5, x48, x49, x50, x51, _, x53, x54, x55, x56, x57, x58, rfl, hB, i0, i1, i2, i3, fun _ => rfl, i5, i6, i7, i8, i9, i10, i11, i12⟩
          · rintro done a wz hd he ⟨x4, x5, x48, x49, x50, x51, x52, x53, x54, x55, x56, x57, x58, rfl, hB, i0, i1, i2, i3, i4, i5, i6, i7, i8, i9, i10, i11, i12⟩ K hK
            simp [Region.binds] at he
            obtain rfl := i4 (by simp [he])
            refine step_wp rfl (wp_load_cell 23 _ rfl ⟨w.heap.size + 1, 4, none⟩ rfl _ _ (Hd.out wz hB) uS rfl ?_)
            exact hK _ _ ⟨x4, x5, x48, x49, x50, x51, _, _, x54, x55, x56, x57, x58, rfl, hB, i0, i1, i2, i3, fun _ => rfl, fun _ => rfl, i6, i7, i8, i9, i10, i11, i12⟩
          · rintro done a wz hd he ⟨x4, x5, x48, x49, x50, x51, x52, x53, x54, x55, x56, x57, x58, rfl, hB, i0, i1, i2, i3, i4, i5, i6, i7, i8, i9, i10, i11, i12⟩ K hK
            simp [Region.binds] at he
            obtain rfl := i5 (by simp [he])
            refine step_wp rfl (wp_value (.pointer (some (bd.add (1 * 5)))) (by kernel_rfl) ?_)
            exact hK _ _ ⟨x4, x5, x48, x49, x50, x51, x52, _, _, x55, x56, x57, x58, rfl, hB, i0, i1, i2, i3, i4, fun _ => rfl, fun _ => rfl, i7, i8, i9, i10, i11, i12⟩
          · rintro done a wz hd he ⟨x4, x5, x48, x49, x50, x51, x52, x53, x54, x55, x56, x57, x58, rfl, hB, i0, i1, i2, i3, i4, i5, i6, i7, i8, i9, i10, i11, i12⟩ K hK
            simp [Region.binds] at he
            obtain rfl := i6 (by simp [he])
            refine step_wp rfl (wp_load_at 25 _ rfl (bd.add (1 * 5)) rfl _ _ (Hb2.out wz hB) uD rfl sD ?_)
            exact hK _ _ ⟨x4, x5, x48, x49, x50, x51, x52, x53, _, _, x56, x57, x58, rfl, hB, i0, i1, i2, i3, i4, i5, fun _ => rfl, fun _ => rfl, i8, i9, i10, i11, i12⟩
          · rintro done a wz hd he ⟨x4, x5, x48, x49, x50, x51, x52, x53, x54, x55, x56, x57, x58, rfl, hB, i0, i1, i2, i3, i4, i5, i6, i7, i8, i9, i10, i11, i12⟩ K hK
            simp [Region.binds] at he
            obtain rfl := i3 (by simp [he])
            obtain rfl := i7 (by simp [he])
            refine step_wp rfl (wp_call (f := 49) (args := #[y.v, y'.v]) (by kernel_rfl) (HR.out wz hB) ?_)
            rintro en w1 ⟨rfl, hb⟩
            exact ⟨_, rfl, hK _ _ ⟨x4, x5, x48, x49, x50, _, x52, x53, x54, _, _, x57, x58, rfl, hB.trans (hb.mono hB.size), i0, i1, i2, fun _ => rfl, i4, i5, i6, fun _ => rfl, fun _ => rfl, i9, i10, i11, i12⟩⟩
          · rintro done a wz hd he ⟨x4, x5, x48, x49, x50, x51, x52, x53, x54, x55, x56, x57, x58, rfl, hB, i0, i1, i2, i3, i4, i5, i6, i7, i8, i9, i10, i11, i12⟩ K hK
            simp [Region.binds] at he
            obtain rfl := i8 (by simp [he])
            refine step_wp rfl (wp_value (.bool r3) (by kernel_rfl) ?_)
            exact hK _ _ ⟨x4, x5, x48, x49, x50, x51, x52, x53, x54, x55, _, _, x58, rfl, hB, i0, i1, i2, i3, i4, i5, i6, i7, fun _ => rfl, fun _ => rfl, i10, i11, i12⟩
          · rintro done a wz hd he ⟨x4, x5, x48, x49, x50, x51, x52, x53, x54, x55, x56, x57, x58, rfl, hB, i0, i1, i2, i3, i4, i5, i6, i7, i8, i9, i10, i11, i12⟩ K hK
            simp [Region.binds] at he
            obtain rfl := i8 (by simp [he])
            refine step_wp rfl (wp_value (.int .i64 nr3) (by kernel_rfl) ?_)
            exact hK _ _ ⟨x4, x5, x48, x49, x50, x51, x52, x53, x54, x55, _, x57, _, rfl, hB, i0, i1, i2, i3, i4, i5, i6, i7, fun _ => rfl, i9, fun _ => rfl, i11, i12⟩
          · rintro done a wz hd he ⟨x4, x5, x48, x49, x50, x51, x52, x53, x54, x55, x56, x57, x58, rfl, hB, i0, i1, i2, i3, i4, i5, i6, i7, i8, i9, i10, i11, i12⟩ K hK
            simp [Region.binds] at he
            obtain rfl := i9 (by simp [he])
            refine step_wp rfl (wp_value (.bool r3) (by kernel_rfl) ?_)
            exact hK _ _ ⟨_, x5, x48, x49, x50, x51, x52, x53, x54, x55, x56, _, x58, rfl, hB, i0, i1, i2, i3, i4, i5, i6, i7, i8, fun _ => rfl, i10, fun _ => rfl, i12⟩
          · rintro done a wz hd he ⟨x4, x5, x48, x49, x50, x51, x52, x53, x54, x55, x56, x57, x58, rfl, hB, i0, i1, i2, i3, i4, i5, i6, i7, i8, i9, i10, i11, i12⟩ K hK
            simp [Region.binds] at he
            obtain rfl := i10 (by simp [he])
            refine step_wp rfl (wp_value (.int .i64 nr3) (by kernel_rfl) ?_)
            exact hK _ _ ⟨x4, _, x48, x49, x50, x51, x52, x53, x54, x55, x56, x57, _, rfl, hB, i0, i1, i2, i3, i4, i5, i6, i7, i8, i9, fun _ => rfl, i11, fun _ => rfl⟩
        · rintro done a wz hd ⟨x4, x5, x48, x49, x50, x51, x52, x53, x54, x55, x56, x57, x58, rfl, hB, i0, i1, i2, i3, i4, i5, i6, i7, i8, i9, i10, i11, i12⟩
          have dd : ∀ j, j < 13 → done j = true := fun j h => hd j (by simpa using h)
          obtain rfl := i0 (dd 0 (by omega))
          obtain rfl := i1 (dd 1 (by omega))
          obtain rfl := i2 (dd 2 (by omega))
          obtain rfl := i3 (dd 3 (by omega))
          obtain rfl := i4 (dd 4 (by omega))
          obtain rfl := i5 (dd 5 (by omega))
          obtain rfl := i6 (dd 6 (by omega))
          obtain rfl := i7 (dd 7 (by omega))
          obtain rfl := i8 (dd 8 (by omega))
          obtain rfl := i9 (dd 9 (by omega))
          obtain rfl := i10 (dd 10 (by omega))
          obtain rfl := i11 (dd 11 (by omega))
          obtain rfl := i12 (dd 12 (by omega))
          clear i0 i1 i2 i3 i4 i5 i6 i7 i8 i9 i10 i11 i12 dd
          have Hf := Lib.hid (Hb.out.trans (hB.mono Hb.out.size))
          clear hB hd
          go_wp2_with fail
          exact HF.out (y.req y') _ _ _ Hf.out (by rw [if_neg Hr2.out, if_pos Er1.out.1]) Er3.out.1 Er3.out.2

theorem req1_any (n : Nat) : ∀ (a b : D) (w : World), a.size ≤ n → a.In w → b.In w → a.right = true → b.right = true → Calls Tryz.prog 49 #[a.v, b.v] w (ReqP (a.req b) w) := by
  induction n with
  | zero => intro a b w h; rw [D.size_eq] at h; omega
  | succ n ih =>
    intro a b w hn ha hb hra hrb
    have sa := (D.head_spec (D.right_head hra)).2.2.2.2.2.2.2
    have sb := (D.head_spec (D.right_head hrb)).2.2.2.2.2.2.2
    obtain ⟨k, i, bb, t, A, c, l⟩ := a
    obtain ⟨k', i', bb', t', A', c', l'⟩ := b
    by_cases hk : k = k'
    · subst hk
      by_cases h7 : k = 7 ∨ k = 8
      · exact req1_bad k i bb t A c l i' bb' t' A' c' l' w h7
      · by_cases h3 : k = 3
        · subst h3
          exact req1_float i bb t A c l i' bb' t' A' c' l' w
        · by_cases h9 : k = 9
          · subst h9
            have sa : l.length = 2 := sa.resolve_left (by simp)
            have sb : l'.length = 2 := sb.resolve_left (by simp)
            match l, sa, l', sb with
            | [x, y], _, [x', y'], _ =>
              simp only [D.right, D.rightL, Bool.and_eq_true] at hra hrb
              simp only [D.size, D.sizeL] at hn
              exact req1_pair n ih i bb t A c x y i' bb' t' A' c' x' y' w (by omega) (by omega) ha hb hra.2.1 hra.2.2.1 hrb.2.1 hrb.2.2.1
          · exact req1_plain k i bb t A c l i' bb' t' A' c' l' w h3 (fun h => h7 (.inl h)) (fun h => h7 (.inr h)) h9
    · exact req1_ne k i bb t A c l k' i' bb' t' A' c' l' w hk
end Go.Proofs.YtbhmeapnmpgggaaGreatDoor
