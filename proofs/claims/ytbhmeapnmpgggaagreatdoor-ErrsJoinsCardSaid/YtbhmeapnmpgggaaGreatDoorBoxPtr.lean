/- datum's value of a pair: the walk, of parts whose value is given. Conditions: the tree lies in the world, below the boxes, and is right. -/
import Derived.Test.YtbhmeapnmpgggaaGreatDoorBoxVals
import Derived.Test.YtbhmeapnmpgggaaGreatDoorLoads
namespace Go.Proofs.YtbhmeapnmpgggaaGreatDoor
open Go.RowKit Go.Joins

def PairJ (B M : Nat) (m : List (Int × Nat)) (x y : D) (W : World) (d5 d11 d12 d13 d14 : Bool) (v1 v2 v67 v68 v4 : Value) (w' : World) : Prop :=
  ∃ m2, (∀ z ∈ m2, W.heap.size ≤ z.2) ∧ Boxes B w' M (m ++ m2) ∧ Kept (bsOf M m) W w' ∧ (d5 = true → DV (m ++ m2) x v1) ∧ (d11 = true → DV (m ++ m2) y v2) ∧
    (d12 = true → d5 = true ∧ d11 = true ∧ v67 = .agg #[v1, v2]) ∧ (d13 = true → d12 = true ∧ v68 = .iface 225 v67) ∧ (d14 = true → d13 = true ∧ v4 = v68)
section
variable {B M : Nat} {m : List (Int × Nat)} {x y : D} {W w w1 : World} {d5 d11 d12 d13 d14 : Bool} {v1 v2 v v67 v68 v4 : Value}
theorem PairJ.kept (h : PairJ B M m x y W d5 d11 d12 d13 d14 v1 v2 v67 v68 v4 w) : Kept (bsOf M m) W w := let ⟨_, _, _, h, _⟩ := h; h
theorem PairJ.call1 (_hlow : ∀ k ∈ bsOf M m, B ≤ k) (h : PairJ B M m x y W d5 d11 d12 d13 d14 v1 v2 v67 v68 v4 w) (hd : d5 = false)
    (ih : ∀ m2, Boxes B w M (m ++ m2) → Kept (bsOf M m) W w → Calls Tryz.prog 99 #[.map (some M), x.v] w (ValueD B M (m ++ m2) x w))
    : Calls Tryz.prog 99 #[.map (some M), x.v] w fun e w1 => ∃ v, e = .returned v ∧ PairJ B M m x y W true d11 d12 d13 d14 v v2 v67 v68 v4 w1 := by
  obtain ⟨m2, j1, j2, j3, j4, j5, j6, j7, j8⟩ := h
  refine (ih m2 j2 j3).mono ?_
  rintro e w1 ⟨v, m3, rfl, h3, hx1, hdv, hk1⟩
  refine ⟨v, rfl, m2 ++ m3, fun z hz => ?_, by rwa [← List.append_assoc], kept_app j3 hk1 j1, fun _ => by rwa [← List.append_assoc], fun h => (j5 h).mono fun z hz => by rw [← List.append_assoc]; exact List.mem_append_left _ hz,
    fun h => absurd (j6 h).1 (by rw [hd]; simp), j7, j8⟩
  rcases List.mem_append.1 hz with h | h
  · exact j1 z h
  · exact Nat.le_trans j3.size (h3 z h)
theorem PairJ.call2 (h : PairJ B M m x y W d5 d11 d12 d13 d14 v1 v2 v67 v68 v4 w) (hd : d11 = false)
    (ih : ∀ m2, Boxes B w M (m ++ m2) → Kept (bsOf M m) W w → Calls Tryz.prog 99 #[.map (some M), y.v] w (ValueD B M (m ++ m2) y w))
    : Calls Tryz.prog 99 #[.map (some M), y.v] w fun e w1 => ∃ v, e = .returned v ∧ PairJ B M m x y W d5 true d12 d13 d14 v1 v v67 v68 v4 w1 := by
  obtain ⟨m2, j1, j2, j3, j4, j5, j6, j7, j8⟩ := h
  refine (ih m2 j2 j3).mono ?_
  rintro e w1 ⟨v, m3, rfl, h3, hx1, hdv, hk1⟩
  refine ⟨v, rfl, m2 ++ m3, fun z hz => ?_, by rwa [← List.append_assoc], kept_app j3 hk1 j1, fun h => (j4 h).mono fun z hz => by rw [← List.append_assoc]; exact List.mem_append_left _ hz, fun _ => by rwa [← List.append_assoc],
    fun h => absurd (j6 h).2.1 (by rw [hd]; simp), j7, j8⟩
  rcases List.mem_append.1 hz with h | h
  · exact j1 z h
  · exact Nat.le_trans j3.size (h3 z h)
theorem PairJ.cells (h : PairJ B M m x y W d5 d11 d12 d13 d14 v1 v2 v67 v68 v4 w) (h5 : d5 = true) (h11 : d11 = true) : v1.cells = #[v1] ∧ v2.cells = #[v2] := by
  obtain ⟨m2, j1, j2, j3, j4, j5, j6, j7, j8⟩ := h
  exact ⟨(j4 h5).cells, (j5 h11).cells⟩
theorem PairJ.build (h : PairJ B M m x y W d5 d11 d12 d13 d14 v1 v2 v67 v68 v4 w) (h5 : d5 = true) (h11 : d11 = true) (hd : d12 = false) : PairJ B M m x y W d5 d11 true d13 d14 v1 v2 (.agg #[v1, v2]) v68 v4 w := by
  obtain ⟨m2, j1, j2, j3, j4, j5, j6, j7, j8⟩ := h
  exact ⟨m2, j1, j2, j3, j4, j5, fun _ => ⟨h5, h11, rfl⟩, fun h => absurd (j7 h).1 (by rw [hd]; simp), j8⟩
theorem PairJ.iface (h : PairJ B M m x y W d5 d11 d12 d13 d14 v1 v2 v67 v68 v4 w) (h12 : d12 = true) (hd : d13 = false) : PairJ B M m x y W d5 d11 d12 true d14 v1 v2 v67 (.iface 225 v67) v4 w := by
  obtain ⟨m2, j1, j2, j3, j4, j5, j6, j7, j8⟩ := h
  exact ⟨m2, j1, j2, j3, j4, j5, j6, fun _ => ⟨h12, rfl⟩, fun h => absurd (j8 h).1 (by rw [hd]; simp)⟩
theorem PairJ.last (h : PairJ B M m x y W d5 d11 d12 d13 d14 v1 v2 v67 v68 v4 w) (h13 : d13 = true) : PairJ B M m x y W d5 d11 d12 d13 true v1 v2 v67 v68 v68 w := by
  obtain ⟨m2, j1, j2, j3, j4, j5, j6, j7, j8⟩ := h
  exact ⟨m2, j1, j2, j3, j4, j5, j6, j7, fun _ => ⟨h13, rfl⟩⟩
theorem PairJ.value (h : PairJ B M m x y W d5 d11 d12 d13 d14 v1 v2 v67 v68 v4 w) (hd : d14 = true) (i b : Int) (t : ByteArray) (A : Option Addr) (c : Nat) (a : World) (ha : Below a.heap.size a W) :
    ∃ m2, (∀ z ∈ m2, a.heap.size ≤ z.2) ∧ Boxes B w M (m ++ m2) ∧ DV (m ++ m2) (.mk 9 i b t A c [x, y]) v4 ∧ Kept (bsOf M m) a w := by
  obtain ⟨m2, j1, j2, j3, j4, j5, j6, j7, j8⟩ := h
  obtain ⟨h13, rfl⟩ := j8 hd
  obtain ⟨h12, rfl⟩ := j7 h13
  obtain ⟨h5, h11, rfl⟩ := j6 h12
  exact ⟨m2, fun z hz => Nat.le_trans ha.size (j1 z hz), j2, .pair _ _ _ _ _ (j4 h5) (j5 h11), (kept_new ha).trans j3⟩
end

set_option maxHeartbeats 4000000 in
set_option maxRecDepth 100000 in
theorem value_pair {n : Nat} (ih : ValueIH n) (i b : Int) (t : ByteArray) (A : Option Addr) (c : Nat) (x y : D) (w : World) (B M : Nat) (m : List (Int × Nat)) (hsx : x.size ≤ n) (hsy : y.size ≤ n)
    (hin : (D.mk 9 i b t A c [x, y]).In w) (hlo : (D.mk 9 i b t A c [x, y]).Lo B) (hrx : x.right = true) (hry : y.right = true) (hx : Boxes B w M m) (hB : B ≤ w.heap.size) :
    Calls Tryz.prog 99 #[.map (some M), (D.mk 9 i b t A c [x, y]).v] w (ValueD B M m (D.mk 9 i b t A c [x, y]) w) := by
  obtain ⟨⟨ad, hA, hat0⟩, hi0⟩ := hin.at_ (q := 0) (e := x) rfl
  obtain ⟨⟨ad', hA', hat1⟩, hi1⟩ := hin.at_ (q := 1) (e := y) rfl
  simp only [D.A_mk] at hA hA'
  rw [hA] at hA'
  injection hA' with hA'
  subst hA' hA
  obtain ⟨hlo0, hlx, _, hly, _⟩ := hlo
  have hadB := hlo0 ad rfl
  have HX := Lib.hid (And.intro hi0 (And.intro hi1 (And.intro hlx (And.intro hly (And.intro hrx (And.intro hry (And.intro hsx hsy)))))))
  have hrng := hin.rng
  obtain ⟨_, _, _, _, hlc, hcc⟩ := hrng
  simp only [D.l_mk, D.c_mk, List.length_cons, List.length_nil] at hlc hcc
  have HAt := Lib.hid (And.intro hat0 (And.intro hat1 hadB))
  have Hx := Lib.hid hx
  have Hih := Lib.hid ih
  have hW : ∀ W, W = w.alloc (.cells #[.int .i64 9, .int .i64 i, .int .u64 b, .string t, .slice (some ad) 2 c] 25) → Blk W w.heap.size 25 #[.int .i64 9, .int .i64 i, .int .u64 b, .string t, .slice (some ad) 2 c] ∧ Below w.heap.size w W := fun W h => by
    subst h
    exact ⟨Blk.new _ _ _, (Below.refl _ _).alloc (Nat.le_refl _) _⟩
  have HW := Lib.hid hW
  clear hW hin hat0 hat1 hi0 hi1 hlo0 hlx hly hadB hx ih hrx hry hsx hsy
  simp only [D.v, D.cs, D.k_mk, D.i_mk, D.b_mk, D.t_mk, D.A_mk, D.c_mk, D.l_mk, List.length_cons, List.length_nil, Nat.zero_add, Nat.reduceAdd]
  go_enter Tryz.func99, Tryz.ntmps99
  go_upto_region 19 with fail
  obtain ⟨b1, b2⟩ := HW.out _ rfl
  clear HW
  generalize w.alloc _ = W at *
  have uD := Tryz.underlying25
  have uS := Tryz.underlying23
  have sD : (Tryz.prog.info? 25).map (·.size) = some 5 := by kernel_rfl
  have hbs : w.heap.size ∉ bsOf M m := fun h => Nat.lt_irrefl _ (Hx.out.lt _ h)
  have Hc : Hid (∀ w', Kept (bsOf M m) W w' → w'.cell? ⟨w.heap.size, 4, none⟩ = some (.slice (some ad) 2 c)) := Lib.hid fun w' h => by
    have := (b1.kept h hbs).cell 4
    simpa using this
  have hlowB := Hx.out.ge
  have hbel : ∀ w', Kept (bsOf M m) W w' → Below B w w' := fun w' h => (b2.mono hB).trans (h.below (Nat.le_trans hB b2.size) hlowB)
  have H0 : Hid (∀ w', Kept (bsOf M m) W w' → At w' (ad.add (0 * 5)) x.cs) := Lib.hid fun w' h => HAt.out.1.below' (by rw [block_of_add]; exact HAt.out.2.2) (hbel w' h)
  have H1 : Hid (∀ w', Kept (bsOf M m) W w' → At w' (ad.add (1 * 5)) y.cs) := Lib.hid fun w' h => HAt.out.2.1.below' (by rw [block_of_add]; exact HAt.out.2.2) (hbel w' h)
  have Hc0 : Hid (∀ w' m2, Boxes B w' M (m ++ m2) → Kept (bsOf M m) W w' → Calls Tryz.prog 99 #[.map (some M), x.v] w' (ValueD B M (m ++ m2) x w')) := Lib.hid fun w' m2 hb hk =>
    Hih.out x w' B M (m ++ m2) HX.out.2.2.2.2.2.2.1 (HX.out.1.below' (hbel w' hk) HX.out.2.2.1) HX.out.2.2.1 HX.out.2.2.2.2.1 hb (Nat.le_trans hB (Nat.le_trans b2.size hk.size))
  have Hc1 : Hid (∀ w' m2, Boxes B w' M (m ++ m2) → Kept (bsOf M m) W w' → Calls Tryz.prog 99 #[.map (some M), y.v] w' (ValueD B M (m ++ m2) y w')) := Lib.hid fun w' m2 hb hk =>
    Hih.out y w' B M (m ++ m2) HX.out.2.2.2.2.2.2.2 (HX.out.2.1.below' (hbel w' hk) HX.out.2.2.2.1) HX.out.2.2.2.1 HX.out.2.2.2.2.2.1 hb (Nat.le_trans hB (Nat.le_trans b2.size hk.size))
  have HxW := Lib.hid (Hx.out.below b2)
  have Hlow := Lib.hid hlowB
  have Hb := Lib.hid b2
  clear b1 b2 hlowB hbel hbs Hih HX HAt Hx
  refine wp_region_each (by kernel_rfl) (by kernel_rfl) (fun done a w' => ∃ x4 x55 x56 x57 x58 x59 x60 x61 x62 x63 x64 x65 x66 x67 x68, a = ⟨#[Value.map (some M), Value.agg #[Value.int IntKind.i64 9, Value.int IntKind.i64 i, Value.int IntKind.u64 b, Value.string t, Value.slice (some ad) 2 c], undef, Value.pointer (some ⟨w.heap.size, 0, none⟩), x4, undef, Value.pointer (some ⟨w.heap.size, 0, none⟩), Value.int IntKind.i64 9, Value.bool false, Value.bool false, undef, undef, undef, Value.bool false, Value.bool false, undef, undef, undef, Value.bool false, Value.bool false, undef, undef, undef, undef, Value.bool false, Value.bool false, undef, undef, undef, Value.bool false, Value.bool false, undef, undef, undef, Value.bool false, Value.bool false, undef, undef, undef, undef, Value.bool false, Value.bool false, undef, undef, undef, undef, Value.bool false, Value.bool false, undef, undef, undef, undef, undef, Value.bool true, Value.bool true, x55, x56, x57, x58, x59, x60, x61, x62, x63, x64, x65, x66, x67, x68, undef, undef, undef, undef, undef, undef, undef, undef, undef, undef, undef, undef, undef, undef, undef, undef, undef, undef, undef, undef, undef, undef, undef, undef, undef, undef, undef, undef, undef, undef, undef, undef, undef, undef, undef, undef, undef, undef, undef, undef, undef, undef], []⟩ ∧ PairJ B M m x y W (done 5) (done 11) (done 12) (done 13) (done 14) x60 x66 x67 x68 x4 w' ∧ (done 0 = true → x55 = .map (some M)) ∧ (done 1 = true → x56 = .pointer (some ⟨w.heap.size, 4, none⟩)) ∧ (done 2 = true → x57 = .slice (some ad) 2 c) ∧ (done 3 = true → x58 = .pointer (some (ad.add (0 * 5)))) ∧ (done 4 = true → x59 = x.v) ∧ (done 6 = true → x61 = .map (some M)) ∧ (done 7 = true → x62 = .pointer (some ⟨w.heap.size, 4, none⟩)) ∧ (done 8 = true → x63 = .slice (some ad) 2 c) ∧ (done 9 = true → x64 = .pointer (some (ad.add (1 * 5)))) ∧ (done 10 = true → x65 = y.v)) ?_ ?_ ?_
  · refine ⟨_, _, _, _, _, _, _, _, _, _, _, _, _, _, _, rfl, ⟨[], by simp, by simpa using HxW.out.below (Below.refl _ _).drew, Kept.of_below (Below.refl _ _).drew _, by simp, by simp, by simp, by simp, by simp⟩, ?_⟩
    simp
  · refine ⟨?_, ?_, ?_, ?_, ?_, ?_, ?_, ?_, ?_, ?_, ?_, ?_, ?_, ?_, ?_, trivial⟩
    · rintro done a wx hd he ⟨x4, x55, x56, x57, x58, x59, x60, x61, x62, x63, x64, x65, x66, x67, x68, rfl, hB, i0, i1, i2, i3, i4, i6, i7, i8, i9, i10⟩ K hK
      refine step_wp rfl (wp_value (.map (some M)) (by kernel_rfl) ?_)
      exact hK _ _ ⟨x4, _, x56, x57, x58, x59, x60, x61, x62, x63, x64, x65, x66, x67, x68, rfl, hB, fun _ => rfl, i1, i2, i3, i4, i6, i7, i8, i9, i10⟩
    · rintro done a wx hd he ⟨x4, x55, x56, x57, x58, x59, x60, x61, x62, x63, x64, x65, x66, x67, x68, rfl, hB, i0, i1, i2, i3, i4, i6, i7, i8, i9, i10⟩ K hK
      refine step_wp rfl (wp_value (.pointer (some ⟨w.heap.size, 4, none⟩)) (by kernel_rfl) ?_)
      exact hK _ _ ⟨x4, x55, _, x57, x58, x59, x60, x61, x62, x63, x64, x65, x66, x67, x68, rfl, hB, i0, fun _ => rfl, i2, i3, i4, i6, i7, i8, i9, i10⟩
    · rintro done a wx hd he ⟨x4, x55, x56, x57, x58, x59, x60, x61, x62, x63, x64, x65, x66, x67, x68, rfl, hB, i0, i1, i2, i3, i4, i6, i7, i8, i9, i10⟩ K hK
      simp [Region.binds] at he
      obtain rfl := i1 (by simp [he])
      refine step_wp rfl (wp_load_cell 23 _ rfl ⟨w.heap.size, 4, none⟩ rfl _ _ (Hc.out wx hB.kept) uS rfl ?_)
      exact hK _ _ ⟨x4, x55, _, _, x58, x59, x60, x61, x62, x63, x64, x65, x66, x67, x68, rfl, hB, i0, fun _ => rfl, fun _ => rfl, i3, i4, i6, i7, i8, i9, i10⟩
    · rintro done a wx hd he ⟨x4, x55, x56, x57, x58, x59, x60, x61, x62, x63, x64, x65, x66, x67, x68, rfl, hB, i0, i1, i2, i3, i4, i6, i7, i8, i9, i10⟩ K hK
      simp [Region.binds] at he
      obtain rfl := i2 (by simp [he])
      refine step_wp rfl (wp_value (.pointer (some (ad.add (0 * 5)))) (by kernel_rfl) ?_)
      exact hK _ _ ⟨x4, x55, x56, _, _, x59, x60, x61, x62, x63, x64, x65, x66, x67, x68, rfl, hB, i0, i1, fun _ => rfl, fun _ => rfl, i4, i6, i7, i8, i9, i10⟩
    · rintro done a wx hd he ⟨x4, x55, x56, x57, x58, x59, x60, x61, x62, x63, x64, x65, x66, x67, x68, rfl, hB, i0, i1, i2, i3, i4, i6, i7, i8, i9, i10⟩ K hK
      simp [Region.binds] at he
      obtain rfl := i3 (by simp [he])
      refine step_wp rfl (wp_load_at 25 _ rfl (ad.add (0 * 5)) rfl _ _ (H0.out wx hB.kept) uD rfl sD ?_)
      exact hK _ _ ⟨x4, x55, x56, x57, _, _, x60, x61, x62, x63, x64, x65, x66, x67, x68, rfl, hB, i0, i1, i2, fun _ => rfl, fun _ => rfl, i6, i7, i8, i9, i10⟩
    · rintro done a wx hd he ⟨x4, x55, x56, x57, x58, x59, x60, x61, x62, x63, x64, x65, x66, x67, x68, rfl, hB, i0, i1, i2, i3, i4, i6, i7, i8, i9, i10⟩ K hK
      simp [Region.binds] at he
      obtain rfl := i0 (by simp [he])
      obtain rfl := i4 (by simp [he])
      refine step_wp rfl (wp_call (f := 99) (args := #[.map (some M), x.v]) (by kernel_rfl) (PairJ.call1 Hlow.out hB hd (fun m2 j2 j3 => Hc0.out wx m2 j2 j3)) ?_)
      rintro en w1 ⟨v, rfl, hB⟩
      exact ⟨_, rfl, hK _ _ ⟨x4, _, x56, x57, x58, _, _, x61, x62, x63, x64, x65, x66, x67, x68, rfl, hB, fun _ => rfl, i1, i2, i3, fun _ => rfl, i6, i7, i8, i9, i10⟩⟩
    · rintro done a wx hd he ⟨x4, x55, x56, x57, x58, x59, x60, x61, x62, x63, x64, x65, x66, x67, x68, rfl, hB, i0, i1, i2, i3, i4, i6, i7, i8, i9, i10⟩ K hK
      refine step_wp rfl (wp_value (.map (some M)) (by kernel_rfl) ?_)
      exact hK _ _ ⟨x4, x55, x56, x57, x58, x59, x60, _, x62, x63, x64, x65, x66, x67, x68, rfl, hB, i0, i1, i2, i3, i4, fun _ => rfl, i7, i8, i9, i10⟩
    · rintro done a wx hd he ⟨x4, x55, x56, x57, x58, x59, x60, x61, x62, x63, x64, x65, x66, x67, x68, rfl, hB, i0, i1, i2, i3, i4, i6, i7, i8, i9, i10⟩ K hK
      refine step_wp rfl (wp_value (.pointer (some ⟨w.heap.size, 4, none⟩)) (by kernel_rfl) ?_)
      exact hK _ _ ⟨x4, x55, x56, x57, x58, x59, x60, x61, _, x63, x64, x65, x66, x67, x68, rfl, hB, i0, i1, i2, i3, i4, i6, fun _ => rfl, i8, i9, i10⟩
    · rintro done a wx hd he ⟨x4, x55, x56, x57, x58, x59, x60, x61, x62, x63, x64, x65, x66, x67, x68, rfl, hB, i0, i1, i2, i3, i4, i6, i7, i8, i9, i10⟩ K hK
      simp [Region.binds] at he
      obtain rfl := i7 (by simp [he])
      refine step_wp rfl (wp_load_cell 23 _ rfl ⟨w.heap.size, 4, none⟩ rfl _ _ (Hc.out wx hB.kept) uS rfl ?_)
      exact hK _ _ ⟨x4, x55, x56, x57, x58, x59, x60, x61, _, _, x64, x65, x66, x67, x68, rfl, hB, i0, i1, i2, i3, i4, i6, fun _ => rfl, fun _ => rfl, i9, i10⟩
    · rintro done a wx hd he ⟨x4, x55, x56, x57, x58, x59, x60, x61, x62, x63, x64, x65, x66, x67, x68, rfl, hB, i0, i1, i2, i3, i4, i6, i7, i8, i9, i10⟩ K hK
      simp [Region.binds] at he
      obtain rfl := i8 (by simp [he])
      refine step_wp rfl (wp_value (.pointer (some (ad.add (1 * 5)))) (by kernel_rfl) ?_)
      exact hK _ _ ⟨x4, x55, x56, x57, x58, x59, x60, x61, x62, _, _, x65, x66, x67, x68, rfl, hB, i0, i1, i2, i3, i4, i6, i7, fun _ => rfl, fun _ => rfl, i10⟩
    · rintro done a wx hd he ⟨x4, x55, x56, x57, x58, x59, x60, x61, x62, x63, x64, x65, x66, x67, x68, rfl, hB, i0, i1, i2, i3, i4, i6, i7, i8, i9, i10⟩ K hK
      simp [Region.binds] at he
      obtain rfl := i9 (by simp [he])
      refine step_wp rfl (wp_load_at 25 _ rfl (ad.add (1 * 5)) rfl _ _ (H1.out wx hB.kept) uD rfl sD ?_)
      exact hK _ _ ⟨x4, x55, x56, x57, x58, x59, x60, x61, x62, x63, _, _, x66, x67, x68, rfl, hB, i0, i1, i2, i3, i4, i6, i7, i8, fun _ => rfl, fun _ => rfl⟩
    · rintro done a wx hd he ⟨x4, x55, x56, x57, x58, x59, x60, x61, x62, x63, x64, x65, x66, x67, x68, rfl, hB, i0, i1, i2, i3, i4, i6, i7, i8, i9, i10⟩ K hK
      simp [Region.binds] at he
      obtain rfl := i6 (by simp [he])
      obtain rfl := i10 (by simp [he])
      refine step_wp rfl (wp_call (f := 99) (args := #[.map (some M), y.v]) (by kernel_rfl) (PairJ.call2 hB hd (fun m2 j2 j3 => Hc1.out wx m2 j2 j3)) ?_)
      rintro en w1 ⟨v, rfl, hB⟩
      exact ⟨_, rfl, hK _ _ ⟨x4, x55, x56, x57, x58, x59, x60, _, x62, x63, x64, _, _, x67, x68, rfl, hB, i0, i1, i2, i3, i4, fun _ => rfl, i7, i8, i9, fun _ => rfl⟩⟩
    · rintro done a wx hd he ⟨x4, x55, x56, x57, x58, x59, x60, x61, x62, x63, x64, x65, x66, x67, x68, rfl, hB, i0, i1, i2, i3, i4, i6, i7, i8, i9, i10⟩ K hK
      simp [Region.binds] at he
      obtain ⟨q1, q2⟩ := hB.cells (by simp [he]) (by simp [he])
      unfold Value.cells at q1 q2
      refine step_wp rfl ?_
      go_simp
      exact hK _ _ ⟨x4, x55, x56, x57, x58, x59, x60, x61, x62, x63, x64, x65, x66, _, x68, rfl, hB.build (by simp [he]) (by simp [he]) hd, i0, i1, i2, i3, i4, i6, i7, i8, i9, i10⟩
    · rintro done a wx hd he ⟨x4, x55, x56, x57, x58, x59, x60, x61, x62, x63, x64, x65, x66, x67, x68, rfl, hB, i0, i1, i2, i3, i4, i6, i7, i8, i9, i10⟩ K hK
      simp [Region.binds] at he
      refine step_wp rfl (wp_value (.iface 225 x67) (by kernel_rfl) ?_)
      exact hK _ _ ⟨x4, x55, x56, x57, x58, x59, x60, x61, x62, x63, x64, x65, x66, x67, _, rfl, hB.iface he hd, i0, i1, i2, i3, i4, i6, i7, i8, i9, i10⟩
    · rintro done a wx hd he ⟨x4, x55, x56, x57, x58, x59, x60, x61, x62, x63, x64, x65, x66, x67, x68, rfl, hB, i0, i1, i2, i3, i4, i6, i7, i8, i9, i10⟩ K hK
      simp [Region.binds] at he
      refine step_wp rfl (wp_value x68 (by kernel_rfl) ?_)
      exact hK _ _ ⟨_, x55, x56, x57, x58, x59, x60, x61, x62, x63, x64, x65, x66, x67, x68, rfl, hB.last (by simp [he]), i0, i1, i2, i3, i4, i6, i7, i8, i9, i10⟩
  · rintro done a wx hd ⟨x4, x55, x56, x57, x58, x59, x60, x61, x62, x63, x64, x65, x66, x67, x68, rfl, hB, i0, i1, i2, i3, i4, i6, i7, i8, i9, i10⟩
    have dd : ∀ j, j < 15 → done j = true := fun j h => hd j (by simpa using h)
    obtain rfl := i0 (dd 0 (by omega))
    obtain rfl := i1 (dd 1 (by omega))
    obtain rfl := i2 (dd 2 (by omega))
    obtain rfl := i3 (dd 3 (by omega))
    obtain rfl := i4 (dd 4 (by omega))
    obtain rfl := i6 (dd 6 (by omega))
    obtain rfl := i7 (dd 7 (by omega))
    obtain rfl := i8 (dd 8 (by omega))
    obtain rfl := i9 (dd 9 (by omega))
    obtain rfl := i10 (dd 10 (by omega))
    clear i0 i1 i2 i3 i4 i6 i7 i8 i9 i10 dd
    have hf := Lib.hid (hB.value (hd 14 (by simp)) i b t (some ad) c w Hb.out)
    clear hB
    go_wp2_with fail
    go_ret
    obtain ⟨m2, f1, f2, f3, f4⟩ := hf.out
    exact ⟨_, m2, rfl, f1, f2, f3, f4⟩
end Go.Proofs.YtbhmeapnmpgggaaGreatDoor
/- datum's value of any right Datum: the walk. Conditions: the tree lies in the world, below the boxes, and is right. -/
namespace Go.Proofs.YtbhmeapnmpgggaaGreatDoor
open Go.RowKit Go.Joins

set_option maxHeartbeats 4000000 in
set_option maxRecDepth 100000 in
theorem value_list {n : Nat} (hn : n ≤ 4096) (ih : ValueIH n) (i b : Int) (t : ByteArray) (A : Option Addr) (c : Nat) (l : List D) (w : World) (B M : Nat) (m : List (Int × Nat)) (hsz : D.sizeL l ≤ n)
    (hin : (D.mk 8 i b t A c l).In w) (hlo : (D.mk 8 i b t A c l).Lo B) (hr : D.rightL l = true) (hx : Boxes B w M m) (hB : B ≤ w.heap.size) :
    Calls Tryz.prog 99 #[.map (some M), (D.mk 8 i b t A c l).v] w (ValueD B M m (D.mk 8 i b t A c l) w) := by
  have hl : ∀ (l : List D), l.length ≤ D.sizeL l := by
    intro l
    induction l with
    | nil => simp [D.sizeL]
    | cons x l ih => have := D.size_eq x; simp only [D.sizeL, List.length_cons]; omega
  have hb2 : Below w.heap.size w (w.alloc (.cells #[.int .i64 8, .int .i64 i, .int .u64 b, .string t, .slice A l.length c] 25)) := (Below.refl _ _).alloc (Nat.le_refl _) _
  have hv := values_any ih l A c _ B M m (fun x hx => by
    obtain ⟨q, hq⟩ := List.getElem?_of_mem hx
    exact Nat.le_trans (D.sizeL_le hq) hsz) (Nat.le_trans (hl l) (Nat.le_trans hsz hn)) (hin.below hb2).list hlo hr (hx.below hb2) (Nat.le_trans hB hb2.size)
  have Hv := Lib.hid hv
  have Hb := Lib.hid hb2
  clear hl hv hb2 hin hlo hr hx ih hsz hn
  simp only [D.v, D.cs, D.k_mk, D.i_mk, D.b_mk, D.t_mk, D.A_mk, D.c_mk, D.l_mk]
  generalize l.length = L at *
  go_enter Tryz.func99, Tryz.ntmps99
  go_wp2_with fail
  refine Hv.out.mono ?_
  rintro e w1 ⟨a, n, k, m2, rfl, h1, h2, h3⟩
  have hf := Lib.hid (And.intro h1 (And.intro h2 h3))
  clear h1 h2 h3 Hv
  go_wp2_with fail
  go_ret
  exact ⟨_, m2, rfl, fun x hx => Nat.le_trans Hb.out.size (hf.out.1 x hx), hf.out.2.1, .list _ _ _ _ _ _ _ _ _, (kept_new Hb.out).trans hf.out.2.2⟩

theorem Kept.setMap {bs : List Nat} {a w : World} (h : Kept bs a w) {M : Nat} (hM : M ∈ bs) (o : Obj) : Kept bs a (setMap w M o) :=
  ⟨h.os, h.tape, h.output, by unfold Go.Proofs.YtbhmeapnmpgggaaGreatDoor.setMap; simpa using h.size, fun i hi hn => by
    unfold Go.Proofs.YtbhmeapnmpgggaaGreatDoor.setMap
    simp only
    rw [Array.getElem?_setIfInBounds_ne (fun e => hn (by rw [← e]; exact hM))]
    exact h.block i hi hn⟩
theorem Boxes.add {B : Nat} {w : World} {M : Nat} {m : List (Int × Nat)} (h : Boxes B w M m) {n : Int} (hf : mfind m n = none) {g : Nat} {x : Value} (hg : Blk w g 230 #[.int .i64 n, x]) (hB : B ≤ g) (hn : ∀ k ∈ bsOf M m, k ≠ g) :
    Boxes B (setMap w M (.map (ents (m ++ [(n, g)]) 0).toArray (m ++ [(n, g)]).length)) M (m ++ [(n, g)]) := by
  have hM : M < w.heap.size := h.lt M (List.mem_cons_self ..)
  have hgM : M ≠ g := hn M (List.mem_cons_self ..)
  have hold : ∀ k, M ≠ k → (setMap w M (.map (ents (m ++ [(n, g)]) 0).toArray (m ++ [(n, g)]).length)).heap[k]? = w.heap[k]? := fun k hk => by
    unfold setMap
    simp only
    rw [Array.getElem?_setIfInBounds_ne hk]
  refine ⟨h.low, ?_, fun n' g' hg' => ?_, ?_, ?_⟩
  · unfold setMap
    simp only
    rw [Array.getElem?_setIfInBounds_self_of_lt hM]
  · rcases List.mem_append.1 hg' with h' | h'
    · obtain ⟨h1, y, h2⟩ := h.box n' g' h'
      refine ⟨h1, y, (hold g' ?_).trans h2⟩
      rintro rfl
      have := h.mp
      unfold Blk at h2
      rw [h2] at this
      cases this
    · simp at h'
      obtain ⟨rfl, rfl⟩ := h'
      exact ⟨hB, x, (hold g' hgM).trans hg⟩
  · rw [List.map_append, List.nodup_append]
    refine ⟨h.nums, by simp, fun a ha b hb => ?_⟩
    simp at hb
    subst hb
    rintro rfl
    obtain ⟨⟨n', g'⟩, h', rfl⟩ := List.mem_map.1 ha
    exact mfind_none hf h'
  · rw [List.map_append, List.nodup_append]
    refine ⟨h.blks, by simp, fun a ha b hb => ?_⟩
    simp at hb
    subst hb
    exact hn a (List.mem_cons_of_mem _ ha)
end Go.Proofs.YtbhmeapnmpgggaaGreatDoor
/- datum's value of a box, and of any right Datum: the walks. Conditions: the tree lies in the world, below the boxes, and is right. -/
namespace Go.Proofs.YtbhmeapnmpgggaaGreatDoor
open Go.RowKit Go.Joins

theorem nilBox (g : Nat) : ∀ w, (binOp .eql 228 (.pointer (some ⟨g, 0, none⟩)) (.pointer none)).run Tryz.prog w = .ok (.bool false) w := fun _ => by kernel_rfl
theorem nilBox0 : ∀ w, (binOp .eql 228 (.pointer none) (.pointer none)).run Tryz.prog w = .ok (.bool true) w := fun _ => by kernel_rfl

set_option maxHeartbeats 4000000 in
set_option maxRecDepth 100000 in
theorem value_ptr {n : Nat} (ih : ValueIH n) (i b : Int) (t : ByteArray) (A : Option Addr) (c : Nat) (x : D) (w : World) (B M : Nat) (m : List (Int × Nat)) (hsx : x.size ≤ n)
    (hin : (D.mk 11 i b t A c [x]).In w) (hlo : (D.mk 11 i b t A c [x]).Lo B) (hrx : x.right = true) (hx : Boxes B w M m) (hB : B ≤ w.heap.size) :
    Calls Tryz.prog 99 #[.map (some M), (D.mk 11 i b t A c [x]).v] w (ValueD B M m (D.mk 11 i b t A c [x]) w) := by
  obtain ⟨⟨ad, hA, hat0⟩, hi0⟩ := hin.at_ (q := 0) (e := x) rfl
  simp only [D.A_mk] at hA
  subst hA
  obtain ⟨hlo0, hlx, _⟩ := hlo
  have hadB := hlo0 ad rfl
  have HX := Lib.hid (And.intro hi0 (And.intro hlx (And.intro hrx hsx)))
  have hrng := hin.rng
  obtain ⟨_, _, _, _, hlc, hcc⟩ := hrng
  simp only [D.l_mk, D.c_mk, List.length_cons, List.length_nil] at hlc hcc
  have had : ad.add (0 * 5) = ad := by rw [Nat.zero_mul]; rfl
  rw [had] at hat0
  have HAt := Lib.hid (And.intro hat0 hadB)
  have Hx := Lib.hid hx
  have Hih := Lib.hid ih
  have hW : ∀ W, W = w.alloc (.cells #[.int .i64 11, .int .i64 i, .int .u64 b, .string t, .slice (some ad) 1 c] 25) → Blk W w.heap.size 25 #[.int .i64 11, .int .i64 i, .int .u64 b, .string t, .slice (some ad) 1 c] ∧ Below w.heap.size w W := fun W h => by
    subst h
    exact ⟨Blk.new _ _ _, (Below.refl _ _).alloc (Nat.le_refl _) _⟩
  have HW := Lib.hid hW
  clear hW hin hat0 hi0 hlo0 hlx hadB hx ih hrx hsx had
  simp only [D.v, D.cs, D.k_mk, D.i_mk, D.b_mk, D.t_mk, D.A_mk, D.c_mk, D.l_mk, List.length_cons, List.length_nil, Nat.zero_add]
  go_enter Tryz.func99, Tryz.ntmps99
  go_upto_region 23 with fail
  obtain ⟨b1, b2⟩ := HW.out _ rfl
  clear HW
  generalize w.alloc _ = W at *
  have hbs : w.heap.size ∉ bsOf M m := fun h => Nat.lt_irrefl _ (Hx.out.lt _ h)
  have hc1 := b1.cell 1
  simp at hc1
  have hxW := Hx.out.below b2
  have hlk := run_lookup_box hxW i
  cases hf : mfind m i with
  | some g =>
    rw [hf] at hlk
    simp only [Option.map_some] at hlk
    have hnb := nilBox g
    have HG : Hid (∃ m1, (i, g) ∈ m ++ m1 ∧ Boxes B W M (m ++ m1) ∧ Kept (bsOf M m) W W ∧ (∀ z ∈ m1, W.heap.size ≤ z.2)) := Lib.hid ⟨[], by simpa using mfind_mem hf, by simpa using hxW, Kept.refl _ _, by simp⟩
    clear hf hxW
    go_upto_region 27 with fail
    clear hlk hnb hc1
    obtain ⟨m1, g1, g2, g3, g4⟩ := HG.out
    clear HG
    have hlowB := Hx.out.ge
    have hbel : Below B w W := (b2.mono hB).trans (g3.below (Nat.le_trans hB b2.size) hlowB)
    have c4 := (b1.kept g3 hbs).cell 4
    simp at c4
    obtain ⟨p0, p1, p2, p3, p4⟩ := (HAt.out.1.below' HAt.out.2 hbel).five
    have hcall := Hih.out x W B M (m ++ m1) HX.out.2.2.2 (HX.out.1.below' hbel HX.out.2.1) HX.out.2.1 HX.out.2.2.1 g2 (Nat.le_trans hB (Nat.le_trans b2.size g3.size))
    have Hc := Lib.hid hcall
    have HG := Lib.hid (And.intro g1 (And.intro g3 (And.intro g4 b2)))
    simp only [D.v, D.cs] at Hc
    clear hcall g1 g2 g3 g4 b1 b2 hbel hlowB Hih HX HAt Hx hbs
    go_wp2_with fail
    refine Hc.out.mono ?_
    rintro e w1 ⟨v, m2, rfl, h1, h2, h3, h4⟩
    obtain ⟨hBG, y, hb⟩ := h2.box i g (List.mem_append_left _ HG.out.1)
    have e1 := hb.cell 1
    have e2 := hb.frozen 1
    simp at e1
    have hone := h3.one
    have hvc := h3.cells
    unfold Value.cells at hvc
    have hst := fun a m w => run_store Tryz.prog w a v m hone
    have hfin : ValueD B M m (D.mk 11 i b t (some ad) c [x]) w (.returned (.iface 228 (.pointer (some ⟨g, 0, none⟩)))) (w1.setCell ⟨g, 1, none⟩ v) := by
      obtain ⟨g1, g3, g4, b2⟩ := HG.out
      refine ⟨_, m1 ++ m2, rfl, fun z hz => ?_, by rw [← List.append_assoc]; exact h2.store (List.mem_append_left _ g1) v, .box _ _ _ _ _ _ (by rw [← List.append_assoc]; exact List.mem_append_left _ g1), ?_⟩
      · rcases List.mem_append.1 hz with h | h
        · exact Nat.le_trans b2.size (g4 z h)
        · exact Nat.le_trans b2.size (Nat.le_trans g3.size (h1 z h))
      · refine ((kept_new b2).trans (kept_app g3 h4 g4)).setCell (p := ⟨g, 1, none⟩) ?_ v
        rcases List.mem_append.1 g1 with h | h
        · exact .inl (List.mem_cons_of_mem _ (List.mem_map.2 ⟨_, h, rfl⟩))
        · exact .inr (Nat.le_trans b2.size (g4 _ h))
    have Hf := Lib.hid hfin
    clear hfin h1 h2 h3 h4 hb hBG HG Hc p0 p1 p2 p3 p4 c4
    go_wp2_with fail
    go_ret
    exact Hf.out
  | none =>
    rw [hf] at hlk
    simp only [Option.map_none] at hlk
    have hnb := nilBox0
    have hal := (Below.refl W.heap.size W).alloc (Nat.le_refl _) (.cells #[.int .i64 i, .nilIface] 230)
    have hc2 := (b1.alloc (.cells #[.int .i64 i, .nilIface] 230)).cell 1
    simp at hc2
    have hup := run_update_box (hxW.below hal) W.heap.size hf
    have HG : Hid (∃ m1, (i, W.heap.size) ∈ m ++ m1 ∧ Boxes B (setMap (W.alloc (.cells #[.int .i64 i, .nilIface] 230)) M (.map (ents (m ++ [(i, W.heap.size)]) 0).toArray (m ++ [(i, W.heap.size)]).length)) M (m ++ m1) ∧
        Kept (bsOf M m) W (setMap (W.alloc (.cells #[.int .i64 i, .nilIface] 230)) M (.map (ents (m ++ [(i, W.heap.size)]) 0).toArray (m ++ [(i, W.heap.size)]).length)) ∧ (∀ z ∈ m1, W.heap.size ≤ z.2)) :=
      Lib.hid ⟨[(i, W.heap.size)], by simp, (hxW.below hal).add hf (Blk.new _ _ _) (Nat.le_trans hB b2.size) (fun k hk => Nat.ne_of_lt (hxW.lt k hk)), ((Kept.refl _ W).alloc _).setMap (List.mem_cons_self ..) _, by simp⟩
    clear hf hxW hal
    rw [show (m ++ [(i, W.heap.size)]).length = m.length + 1 from by simp] at HG
    go_upto_region 27 with fail
    clear hlk hnb hup hc1 hc2
    obtain ⟨m1, g1, g2, g3, g4⟩ := HG.out
    clear HG
    generalize hW1 : setMap _ _ _ = W1 at *
    clear hW1
    have hlowB := Hx.out.ge
    have hbel : Below B w W1 := (b2.mono hB).trans (g3.below (Nat.le_trans hB b2.size) hlowB)
    have c4 := (b1.kept g3 hbs).cell 4
    simp at c4
    obtain ⟨p0, p1, p2, p3, p4⟩ := (HAt.out.1.below' HAt.out.2 hbel).five
    have hcall := Hih.out x W1 B M (m ++ m1) HX.out.2.2.2 (HX.out.1.below' hbel HX.out.2.1) HX.out.2.1 HX.out.2.2.1 g2 (Nat.le_trans hB (Nat.le_trans b2.size g3.size))
    have Hc := Lib.hid hcall
    have HG := Lib.hid (And.intro g1 (And.intro g3 (And.intro g4 b2)))
    simp only [D.v, D.cs] at Hc
    clear hcall g1 g2 g3 g4 b1 b2 hbel hlowB Hih HX HAt Hx hbs
    go_wp2_with fail
    refine Hc.out.mono ?_
    rintro e w1 ⟨v, m2, rfl, h1, h2, h3, h4⟩
    obtain ⟨hBG, y, hb⟩ := h2.box i W.heap.size (List.mem_append_left _ HG.out.1)
    have e1 := hb.cell 1
    have e2 := hb.frozen 1
    simp at e1
    have hone := h3.one
    have hvc := h3.cells
    unfold Value.cells at hvc
    have hst := fun a m w => run_store Tryz.prog w a v m hone
    have hfin : ValueD B M m (D.mk 11 i b t (some ad) c [x]) w (.returned (.iface 228 (.pointer (some ⟨W.heap.size, 0, none⟩)))) (w1.setCell ⟨W.heap.size, 1, none⟩ v) := by
      obtain ⟨g1, g3, g4, b2⟩ := HG.out
      refine ⟨_, m1 ++ m2, rfl, fun z hz => ?_, by rw [← List.append_assoc]; exact h2.store (List.mem_append_left _ g1) v, .box _ _ _ _ _ _ (by rw [← List.append_assoc]; exact List.mem_append_left _ g1), ?_⟩
      · rcases List.mem_append.1 hz with h | h
        · exact Nat.le_trans b2.size (g4 z h)
        · exact Nat.le_trans b2.size (Nat.le_trans g3.size (h1 z h))
      · refine ((kept_new b2).trans (kept_app g3 h4 g4)).setCell (p := ⟨W.heap.size, 1, none⟩) ?_ v
        rcases List.mem_append.1 g1 with h | h
        · exact .inl (List.mem_cons_of_mem _ (List.mem_map.2 ⟨_, h, rfl⟩))
        · exact .inr (Nat.le_trans b2.size (g4 _ h))
    have Hf := Lib.hid hfin
    clear hfin h1 h2 h3 h4 hb hBG HG Hc p0 p1 p2 p3 p4 c4
    go_wp2_with fail
    go_ret
    exact Hf.out

theorem valueD_any : ∀ n, n ≤ 4096 → ValueIH n := by
  intro n
  induction n with
  | zero => intro _ d w B M m h; rw [D.size_eq] at h; omega
  | succ n ih =>
    intro hn4 d w B M m hn hin hlo hr hx hB
    have ih := ih (by omega)
    have hr2 := hr
    obtain ⟨h1, h2, _, _, _, _, _, h8⟩ := D.head_spec (D.right_head hr)
    by_cases g : d.k = 8 ∨ d.k = 9 ∨ d.k = 11
    · obtain ⟨k, i, b, t, A, c, l⟩ := d
      simp only [D.k_mk, D.l_mk] at h8 g
      rw [D.right, Bool.and_eq_true] at hr2
      have hs : D.sizeL l ≤ n := by simp only [D.size] at hn; omega
      rcases g with rfl | rfl | rfl
      · exact value_list (by omega) ih i b t A c l w B M m hs hin hlo hr2.2 hx hB
      · rcases h8 with h8 | h8
        · omega
        · have h8 : l.length = 2 := h8
          match l, h8, hr2 with
          | [x, y], _, hr2 =>
            have h := hr2.2
            simp only [D.rightL, Bool.and_eq_true] at h
            simp only [D.sizeL] at hs
            exact value_pair ih i b t A c x y w B M m (by omega) (by omega) hin hlo h.1 h.2.1 hx hB
      · rcases h8 with h8 | h8
        · omega
        · have h8 : l.length = 1 := h8
          match l, h8, hr2 with
          | [x], _, hr2 =>
            have h := hr2.2
            simp only [D.rightL, Bool.and_eq_true] at h
            simp only [D.sizeL] at hs
            exact value_ptr ih i b t A c x w B M m (by omega) hin hlo h.1 hx hB
    · refine (valueLeaf d m M w hr (by omega) (by omega) (by omega)).mono ?_
      rintro e w' ⟨v, rfl, hv, hb⟩
      exact ⟨v, [], rfl, by simp, by simpa using hx.below hb, by simpa using hv, kept_new hb⟩
end Go.Proofs.YtbhmeapnmpgggaaGreatDoor
