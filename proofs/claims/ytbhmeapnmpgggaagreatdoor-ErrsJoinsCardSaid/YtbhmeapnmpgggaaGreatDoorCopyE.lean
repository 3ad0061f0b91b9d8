/- conduitref01.Copy: the walk. Conditions: the tree lies in the world and is not great. -/
import Derived.Test.YtbhmeapnmpgggaaGreatDoorCloneJ
import Derived.Test.YtbhmeapnmpgggaaGreatDoorBack
namespace Go.Proofs.YtbhmeapnmpgggaaGreatDoor
open Go.RowKit

/-- what holds at the head of a copying loop's rounds -/
structure D.Cq (W3 : World) (g : Nat) (pre : Array Value) (l : List D) (j : Nat) (s : Value) (es : List D) (wr : World) : Prop where
  kept : Kept [g] W3 wr
  row : D.Row W3.heap.size wr s es
  bare : D.bareL es = D.bareL (l.take j)
  b0 : Blk wr g 25 (pre.push s)
theorem D.Cq.len {W3 : World} {g : Nat} {pre : Array Value} {l : List D} {j : Nat} {s : Value} {es : List D} {wr : World} (h : D.Cq W3 g pre l j s es wr) (hj : j ≤ l.length) : es.length = j := by
  rw [← D.bareL_len es, h.bare, D.bareL_len, List.length_take, Nat.min_eq_left hj]
/-- the address of an element -/
theorem idx_any {P : Program} (T Te : TypeId) (sz : Nat) (hel : P.elem T = Te) (hu : P.underlying T = some (.slice (P.elem T))) (hs : (P.info? Te).map (·.size) = some sz) (p q : Operand) (ad : Addr) (L c : Nat) (j : Nat) (h : j < L) (o : Oper) (a : Act) (ho : o.op = .indexAddr T p q) (h1 : a.eval p = .slice (some ad) L c) (h2 : a.eval q = .int .i64 j) (w : World) :
    (execOp a.eval o).run P w = .ok (.value (.pointer (some (ad.add (j * sz))))) w := by
  unfold execOp
  simp only [ho, h1, h2]
  cases hq : P.info? Te with
  | none => simp [hq] at hs
  | some i =>
    have hz : i.size = sz := by simpa [hq] using hs
    simp only [Sem.run_bind, run_indexAt_slice (P := P) _ _ _ _ _ _ _ hu, hel, sizeOf, typeInfo]
    rw [if_pos (by omega)]
    simp [hq, hz]
theorem elemD : Tryz.prog.elem 23 = 25 := by kernel_rfl
theorem underD : Tryz.prog.underlying 23 = some (.slice (Tryz.prog.elem 23)) := by kernel_rfl
theorem sizeD : (Tryz.prog.info? 25).map (·.size) = some 5 := by kernel_rfl

set_option maxHeartbeats 1000000 in
set_option maxRecDepth 100000 in
theorem copy1_step (n : Nat) (d : D) (w : World) (hn : D.sizeL d.l ≤ n) (h20 : d.size ≤ 1000000) (hd : d.In w)
    (ih : ∀ (x : D) (w : World), x.size ≤ n → x.size ≤ 1000000 → x.In w → Calls Tryz.prog 69 #[x.v] w (D.New x w)) :
    Calls Tryz.prog 69 #[d.v] w (D.New d w) := by
  have hrg := hd.rng
  have hlen : d.l.length ≤ 1000000 := by
    have := D.sizeL_len d.l
    have := D.size_eq d
    omega
  have HE : Hid (∀ q x, d.l[q]? = some x → (∃ ad, d.A = some ad ∧ At w (ad.add (q * 5)) x.cs) ∧ (x.size ≤ n ∧ x.size ≤ 1000000 ∧ x.In w)) := Lib.hid fun q x h =>
    ⟨(hd.at_ h).1, Nat.le_trans (D.sizeL_le h) hn, Nat.le_trans (Nat.le_of_lt (D.size_lt h)) h20, (hd.at_ h).2⟩
  have HP : Hid (∀ (A' : Option Addr) (c' : Nat) (es : List D) (w' : World), (D.mk d.k d.i d.b d.t A' c' es).In w' → D.bareL es = D.bareL d.l → D.AllL (w.heap.size ≤ ·) A' es → Below w.heap.size w w' →
      D.New d w (.returned (.agg #[.int .i64 d.k, .int .i64 d.i, .int .u64 d.b, .string d.t, .slice A' es.length c'])) w') := Lib.hid fun A' c' es w' h1 h2 h3 h4 =>
    ⟨D.mk d.k d.i d.b d.t A' c' es, rfl, h1, by rw [D.bare, h2]; cases d; rw [D.bare]; rfl, h3, h4⟩
  obtain ⟨hr1, hr2, hr3, hr4, hr5, hr6⟩ := hrg
  have HG := Lib.hid (And.intro hr1 (And.intro hr2 (And.intro hr3 hr4)))
  have hW : ∀ W, W = (((w.alloc (.cells #[.int .i64 d.k, .int .i64 d.i, .int .u64 d.b, .string d.t, .slice d.A d.l.length d.c] 25)).alloc (.cells #[.int .i64 0, .int .i64 0, .int .u64 0, .string ⟨#[]⟩, .slice none 0 0] 25)).alloc (.cells #[.int .i64 d.k, .int .i64 d.i, .int .u64 d.b, .string d.t, .slice none 0 0] 25)) →
      Blk W w.heap.size 25 #[.int .i64 d.k, .int .i64 d.i, .int .u64 d.b, .string d.t, .slice d.A d.l.length d.c] ∧ Blk W (w.heap.size + 1) 25 #[.int .i64 0, .int .i64 0, .int .u64 0, .string ⟨#[]⟩, .slice none 0 0] ∧
      Blk W (w.heap.size + 2) 25 #[.int .i64 d.k, .int .i64 d.i, .int .u64 d.b, .string d.t, .slice none 0 0] ∧ Below w.heap.size w W ∧ W.heap.size = w.heap.size + 3 := fun W h => by
    subst h
    exact ⟨((Blk.new _ _ _).alloc _).alloc _, (Blk.new' (by simp) _ _).alloc _, Blk.new' (by simp) _ _, (((Below.refl _ _).alloc (Nat.le_refl _) _).alloc (by simp) _).alloc (by simp; omega) _, by simp⟩
  have HW := Lib.hid hW
  clear hn hd h20 hr1 hr2 hr3 hr4 hW
  generalize hR : D.New d w = R at HP ⊢
  clear hR
  simp only [D.v, D.cs]
  generalize d.k = f0, d.i = f1, d.b = f2, d.t = f3, d.A = A, d.c = c at *
  generalize d.l = l at *
  go_enter Tryz.func69, Tryz.ntmps69
  go_wp2_with fail
  obtain ⟨b1, b2, b3, b4, b5⟩ := HW.out _ rfl
  clear HW
  generalize ((w.alloc _).alloc _).alloc _ = W3 at *
  have HB := Lib.hid (And.intro b1 (And.intro b2 (And.intro b3 (And.intro b4 b5))))
  clear b1 b2 b3 b4 b5
  go_loopg [10] l.length (fun gk i wr => ∃ (j : Nat) (s : Value) (es : List D), i = .int .i64 j ∧ j + gk = l.length ∧ Hid (D.Cq W3 (w.heap.size + 2) #[.int .i64 f0, .int .i64 f1, .int .u64 f2, .string f3] l j s es wr))
  case atStart =>
    exact ⟨0, .slice none 0 0, [], rfl, by omega, Kept.refl _ _, D.Row.nil _ _, rfl, HB.out.2.2.1⟩
  case round =>
    obtain ⟨j, s, es, rfl, hj, hC⟩ := hrel
    by_cases hlt : j < l.length
    · obtain ⟨x, ex⟩ : ∃ x, l[j]? = some x := ⟨_, List.getElem?_eq_getElem hlt⟩
      obtain ⟨⟨ad, rfl, h1⟩, hx⟩ := HE.out j x ex
      have HX := Lib.hid hx
      have Hex := Lib.hid ex
      have H1 := Lib.hid h1
      clear hx ex h1
      go_wp2_with fail
      have hCr := hC.out
      have hz3 := HB.out.2.2.2.2
      have hbw : Below w.heap.size w wr := HB.out.2.2.2.1.trans (hCr.kept.below (by omega) (by simp))
      have HR := Lib.hid hCr.row
      have hBz : W3.heap.size ≤ wr.heap.size := hCr.kept.size
      have hlen2 : es.length ≤ 1000000 := by have := hCr.len (by omega); omega
      have HK := Lib.hid hCr.b0
      have Hkp := Lib.hid hCr.kept
      have HK0 := Lib.hid (HB.out.1.kept hCr.kept (by simp))
      have Hbw := Lib.hid hbw
      have hg3 : w.heap.size + 2 < W3.heap.size := by omega
      have Hs := Lib.hid (fun W (h : Below wr.heap.size wr W) => (HK.out.below h HK.out.lt).cell 4)
      have Hl := Lib.hid (fun W (h : Below wr.heap.size wr W) => (HK0.out.below h HK0.out.lt).cell 4)
      have Hx := Lib.hid (fun W (h : Below wr.heap.size wr W) => H1.out.below (hbw.trans (h.mono hbw.size)))
      have Hc := Lib.hid (fun W (h : Below wr.heap.size wr W) => ih x W HX.out.1 HX.out.2.1 (HX.out.2.2.below (hbw.trans (h.mono hbw.size))))
      have Hbare := Lib.hid hCr.bare
      clear hCr hbw hC hz3
      have uD := Tryz.underlying25
      have uS := Tryz.underlying23
      simp only [D.v, D.cs] at Hc Hx
      refine wp_region_eachC (by kernel_rfl) (by kernel_rfl) (fun done a w' => ∃ x13 x14 x15 x16 x17 x18 x19 x20 x21 x22 x23, a = ⟨#[Value.agg #[Value.int IntKind.i64 f0, Value.int IntKind.i64 f1, Value.int IntKind.u64 f2, Value.string f3, Value.slice (some ad) l.length c], Value.pointer (some ⟨w.heap.size, 0, none⟩), Value.pointer (some ⟨w.heap.size + 1, 0, none⟩), Value.pointer (some ⟨w.heap.size + 2, 0, none⟩), Value.int IntKind.i64 ↑j, Value.agg #[Value.int IntKind.i64 f0, Value.int IntKind.i64 f1, Value.int IntKind.u64 f2, Value.string f3, Value.slice (some ad) l.length c], Value.pointer (some ⟨w.heap.size + 2, 4, none⟩), Value.pointer (some ⟨w.heap.size, 4, none⟩), Value.slice (some ad) l.length c, Value.int IntKind.i64 ↑l.length, Value.int IntKind.i64 ↑j, Value.bool true, Value.int IntKind.i64 ↑j, x13, x14, x15, x16, x17, x18, x19, x20, x21, x22, x23, u24, undef], []⟩ ∧ AppJ wr ⟨w.heap.size + 2, 4, none⟩ (D.Got wr x) (D.Boxed wr x) (D.Put (W3.heap.size) wr s es x) (done 7) (done 8) (done 9) (done 11) x20 x21 x22 w' ∧ (done 0 = true → x13 = Value.pointer (some ⟨w.heap.size + 2, 4, none⟩)) ∧ (done 1 = true → x14 = s) ∧ (done 2 = true → x15 = Value.pointer (some ⟨w.heap.size, 4, none⟩)) ∧ (done 3 = true → x16 = Value.slice (some ad) l.length c) ∧ (done 4 = true → x17 = Value.int IntKind.i64 ↑j) ∧ (done 5 = true → x18 = Value.pointer (some (ad.add (j * 5)))) ∧ (done 6 = true → x19 = Value.agg #[Value.int IntKind.i64 x.k, Value.int IntKind.i64 x.i, Value.int IntKind.u64 x.b, Value.string x.t, Value.slice x.A x.l.length x.c]) ∧ (done 10 = true → x23 = Value.pointer (some ⟨w.heap.size + 2, 4, none⟩))) ?_ ?_ ?_
      · refine ⟨_, _, _, _, _, _, _, _, _, _, _, rfl, AppJ.start _ _ _ _ _ _ _ _, ?_⟩
        simp
      · refine ⟨?_, ?_, ?_, ?_, ?_, ?_, ?_, ?_, ?_, ?_, ?_, ?_, trivial⟩
        · rintro done a wx hd he ⟨x13, x14, x15, x16, x17, x18, x19, x20, x21, x22, x23, rfl, hB, i0, i1, i2, i3, i4, i5, i6, i10⟩ hcl K hK
          refine step_wp rfl (wp_value (Value.pointer (some ⟨w.heap.size + 2, 4, none⟩)) (by kernel_rfl) ?_)
          exact hK _ _ ⟨_, x14, x15, x16, x17, x18, x19, x20, x21, x22, x23, rfl, hB, fun _ => rfl, i1, i2, i3, i4, i5, i6, i10⟩
        · rintro done a wx hd he ⟨x13, x14, x15, x16, x17, x18, x19, x20, x21, x22, x23, rfl, hB, i0, i1, i2, i3, i4, i5, i6, i10⟩ hcl K hK
          simp [Region.binds] at he
          obtain rfl := i0 (by simp [he])
          have hda := hcl.not (a := 9) (by kernel_rfl) (by omega) hd
          refine step_wp rfl (wp_load_cell 23 _ rfl ⟨w.heap.size + 2, 4, none⟩ rfl _ _ (Hs.out wx (hB.first hda).2.1) uS rfl ?_)
          exact hK _ _ ⟨_, _, x15, x16, x17, x18, x19, x20, x21, x22, x23, rfl, hB, fun _ => rfl, fun _ => rfl, i2, i3, i4, i5, i6, i10⟩
        · rintro done a wx hd he ⟨x13, x14, x15, x16, x17, x18, x19, x20, x21, x22, x23, rfl, hB, i0, i1, i2, i3, i4, i5, i6, i10⟩ hcl K hK
          refine step_wp rfl (wp_value (Value.pointer (some ⟨w.heap.size, 4, none⟩)) (by kernel_rfl) ?_)
          exact hK _ _ ⟨x13, x14, _, x16, x17, x18, x19, x20, x21, x22, x23, rfl, hB, i0, i1, fun _ => rfl, i3, i4, i5, i6, i10⟩
        · rintro done a wx hd he ⟨x13, x14, x15, x16, x17, x18, x19, x20, x21, x22, x23, rfl, hB, i0, i1, i2, i3, i4, i5, i6, i10⟩ hcl K hK
          simp [Region.binds] at he
          obtain rfl := i2 (by simp [he])
          have hda := hcl.not (a := 9) (by kernel_rfl) (by omega) hd
          refine step_wp rfl (wp_load_cell 23 _ rfl ⟨w.heap.size, 4, none⟩ rfl _ _ (Hl.out wx (hB.first hda).2.1) uS rfl ?_)
          exact hK _ _ ⟨x13, x14, _, _, x17, x18, x19, x20, x21, x22, x23, rfl, hB, i0, i1, fun _ => rfl, fun _ => rfl, i4, i5, i6, i10⟩
        · rintro done a wx hd he ⟨x13, x14, x15, x16, x17, x18, x19, x20, x21, x22, x23, rfl, hB, i0, i1, i2, i3, i4, i5, i6, i10⟩ hcl K hK
          refine step_wp rfl (wp_value (Value.int IntKind.i64 ↑j) (by kernel_rfl) ?_)
          exact hK _ _ ⟨x13, x14, x15, x16, _, x18, x19, x20, x21, x22, x23, rfl, hB, i0, i1, i2, i3, fun _ => rfl, i5, i6, i10⟩
        · rintro done a wx hd he ⟨x13, x14, x15, x16, x17, x18, x19, x20, x21, x22, x23, rfl, hB, i0, i1, i2, i3, i4, i5, i6, i10⟩ hcl K hK
          simp [Region.binds] at he
          obtain rfl := i3 (by simp [he])
          obtain rfl := i4 (by simp [he])
          refine step_wp rfl (wp_value (Value.pointer (some (ad.add (j * 5)))) (idx_any _ _ 5 elemD underD sizeD (.tmp 16) (.tmp 17) ad l.length c j hlt _ _ rfl rfl rfl wx) ?_)
          exact hK _ _ ⟨x13, x14, x15, _, _, _, x19, x20, x21, x22, x23, rfl, hB, i0, i1, i2, fun _ => rfl, fun _ => rfl, fun _ => rfl, i6, i10⟩
        · rintro done a wx hd he ⟨x13, x14, x15, x16, x17, x18, x19, x20, x21, x22, x23, rfl, hB, i0, i1, i2, i3, i4, i5, i6, i10⟩ hcl K hK
          simp [Region.binds] at he
          obtain rfl := i5 (by simp [he])
          have hda := hcl.not (a := 9) (by kernel_rfl) (by omega) hd
          refine step_wp rfl (wp_load_at 25 _ rfl (ad.add (j * 5)) rfl _ _ (Hx.out wx (hB.first hda).2.1) uD rfl sizeD ?_)
          exact hK _ _ ⟨x13, x14, x15, x16, x17, _, _, x20, x21, x22, x23, rfl, hB, i0, i1, i2, i3, i4, fun _ => rfl, fun _ => rfl, i10⟩
        · rintro done a wx hd he ⟨x13, x14, x15, x16, x17, x18, x19, x20, x21, x22, x23, rfl, hB, i0, i1, i2, i3, i4, i5, i6, i10⟩ hcl K hK
          simp [Region.binds] at he
          obtain rfl := i6 (by simp [he])
          have hda := hcl.not (a := 9) (by kernel_rfl) (by omega) hd
          refine step_wp rfl (wp_call (f := 69) (args := #[Value.agg #[Value.int IntKind.i64 x.k, Value.int IntKind.i64 x.i, Value.int IntKind.u64 x.b, Value.string x.t, Value.slice x.A x.l.length x.c]]) (by kernel_rfl) (Hc.out wx (hB.first hda).2.1) ?_)
          intro en w1 hn
          obtain ⟨v, hv, hB⟩ := D.step_call hB hda hn
          exact ⟨v, hv, hK _ _ ⟨x13, x14, x15, x16, x17, x18, _, _, x21, x22, x23, rfl, hB, i0, i1, i2, i3, i4, i5, fun _ => rfl, i10⟩⟩
        · rintro done a wx hd he ⟨x13, x14, x15, x16, x17, x18, x19, x20, x21, x22, x23, rfl, hB, i0, i1, i2, i3, i4, i5, i6, i10⟩ hcl K hK
          simp [Region.binds] at he
          have hda := hcl.not (a := 9) (by kernel_rfl) (by omega) hd
          obtain ⟨u, w1, hr, hB⟩ := D.step_box hB hda (by simp [he])
          refine step_wp rfl (wp_box _ _ _ u rfl rfl hr ?_)
          exact hK _ _ ⟨x13, x14, x15, x16, x17, x18, x19, x20, _, x22, x23, rfl, hB, i0, i1, i2, i3, i4, i5, i6, i10⟩
        · rintro done a wx hd he ⟨x13, x14, x15, x16, x17, x18, x19, x20, x21, x22, x23, rfl, hB, i0, i1, i2, i3, i4, i5, i6, i10⟩ hcl K hK
          simp [Region.binds] at he
          obtain rfl := i1 (by simp [he])
          refine step_wp rfl (D.step_append hB hd (by simp [he]) hBz HR.out hlen2 (.tmp 14) (.tmp 21) rfl rfl rfl ?_)
          intro v' w1 hB
          exact hK _ _ ⟨x13, _, x15, x16, x17, x18, x19, x20, x21, _, x23, rfl, hB, i0, fun _ => rfl, i2, i3, i4, i5, i6, i10⟩
        · rintro done a wx hd he ⟨x13, x14, x15, x16, x17, x18, x19, x20, x21, x22, x23, rfl, hB, i0, i1, i2, i3, i4, i5, i6, i10⟩ hcl K hK
          refine step_wp rfl (wp_value (Value.pointer (some ⟨w.heap.size + 2, 4, none⟩)) (by kernel_rfl) ?_)
          exact hK _ _ ⟨x13, x14, x15, x16, x17, x18, x19, x20, x21, x22, _, rfl, hB, i0, i1, i2, i3, i4, i5, i6, fun _ => rfl⟩
        · rintro done a wx hd he ⟨x13, x14, x15, x16, x17, x18, x19, x20, x21, x22, x23, rfl, hB, i0, i1, i2, i3, i4, i5, i6, i10⟩ hcl K hK
          simp [Region.binds] at he
          obtain rfl := i10 (by simp [he])
          refine step_wp rfl (D.step_store hB (by simp [he]) hd HR.out hg3 HK.out (old := s) rfl (.tmp 23) (.tmp 22) rfl rfl rfl ?_)
          intro w1 hB
          exact hK _ _ ⟨x13, x14, x15, x16, x17, x18, x19, x20, x21, x22, _, rfl, hB, i0, i1, i2, i3, i4, i5, i6, fun _ => rfl⟩
      · rintro done a wx hd ⟨x13, x14, x15, x16, x17, x18, x19, x20, x21, x22, x23, rfl, hB, i0, i1, i2, i3, i4, i5, i6, i10⟩
        have dd : ∀ j, j < 12 → done j = true := fun j h => hd j (by simpa using h)
        have hE := hB.third (dd 11 (by omega))
        obtain rfl := i0 (dd 0 (by omega))
        obtain rfl := i1 (dd 1 (by omega))
        obtain rfl := i2 (dd 2 (by omega))
        obtain rfl := i3 (dd 3 (by omega))
        obtain rfl := i4 (dd 4 (by omega))
        obtain rfl := i5 (dd 5 (by omega))
        obtain rfl := i6 (dd 6 (by omega))
        obtain rfl := i10 (dd 10 (by omega))
        clear i0 i1 i2 i3 i4 i5 i6 i10 dd hB
        have hN := D.step_end hE HR.out hg3 Hbw.out (Nat.le_add_right _ _) hBz HK.out
        obtain ⟨x', k1, k2, k3, k4, k5, k6, k7⟩ := hN
        have HN : Hid (D.Cq W3 (w.heap.size + 2) #[.int .i64 f0, .int .i64 f1, .int .u64 f2, .string f3] l (j + 1) x22 (es ++ [x']) wx) :=
          ⟨k7 _ _ Hkp.out (Nat.le_refl _) (by simp), k2, D.bareL_snoc Hbare.out Hex.out k1, by simpa using k3⟩
        clear hE k1 k2 k3 k4 k5 k6 k7 Hc Hx Hs HR HK Hbw Hbare hBz uD uS Hkp Hl HK0
        go_wp2_with fail
        go_roundg (gk - 1)
        case measure => omega
        case rel => exact ⟨j + 1, x22, es ++ [x'], by go_num, by omega, HN⟩
    · obtain rfl : j = l.length := by omega
      have hC2 := hC.out
      obtain ⟨A', c', rfl, r1, r2, r3, r4⟩ := hC2.row.list
      have HF := Lib.hid (HP.out A' c' es)
      have hz3 := HB.out.2.2.2.2
      have HI : Hid (∀ w', D.InL w' A' 0 es → (D.mk f0 f1 f2 f3 A' c' es).In w') := Lib.hid fun w' h => ⟨⟨HG.out.1, HG.out.2.1, HG.out.2.2.1, HG.out.2.2.2, r2, r3⟩, h⟩
      have HBa := Lib.hid (show D.bareL es = D.bareL l by rw [hC2.bare, List.take_length])
      have HA := Lib.hid r4
      have HN : Hid (∀ w', (∀ k, w.heap.size + 3 ≤ k → k < wr.heap.size → w'.heap[k]? = wr.heap[k]?) → Below w.heap.size w w' → R (.returned (.agg #[.int .i64 f0, .int .i64 f1, .int .u64 f2, .string f3, .slice A' es.length c'])) w') := Lib.hid fun w' hk hb => by
        have hr := hC2.row.turn (w' := w') (fun k h1 h2 => hk k (by omega) h2)
        obtain ⟨A2, c2, e2, q1, q2, q3, q4⟩ := hr.list
        injection e2 with e2 _ e3
        subst e2 e3
        exact HF.out w' (HI.out w' q1) HBa.out (D.AllL.mono (fun g h => by omega) HA.out) hb
      have B2 := HB.out.2.1.kept hC2.kept (by simp)
      have c0 := hC2.b0.cell 0
      have c1 := hC2.b0.cell 1
      have c2 := hC2.b0.cell 2
      have c3 := hC2.b0.cell 3
      have c4 := hC2.b0.cell 4
      have d0 := B2.cell 0
      have d1 := B2.cell 1
      have d2 := B2.cell 2
      have d3 := B2.cell 3
      have d4 := B2.cell 4
      have e0 := B2.frozen 0
      have e1 := B2.frozen 1
      have e2 := B2.frozen 2
      have e3 := B2.frozen 3
      have e4 := B2.frozen 4
      simp at c0 c1 c2 c3 c4 d0 d1 d2 d3 d4
      have Hbel : Hid (Below w.heap.size w wr) := HB.out.2.2.2.1.trans (hC2.kept.below (by omega) (by simp))
      clear hC hC2 r1 r2 r3 r4 HF HI HB HBa HA HE HP B2 hz3
      go_wp2_with fail
      refine bodyPost_ret (v := .agg #[.int .i64 f0, .int .i64 f1, .int .u64 f2, .string f3, .slice A' es.length c']) ?_ rfl (HN.out _ ?_ ?_)
      · simp [results, Tryz.results69, go_sem, d0, d1, d2, d3, d4]
      · intro k hk _
        repeat rw [Below.heap_setCell _ _ _ _ (by show k ≠ w.heap.size + 1; omega)]
      · iterate 5 refine Below.setCell ?_ (Nat.le_succ _) _
        exact Hbel.out

theorem copy1_any (n : Nat) : ∀ (d : D) (w : World), d.size ≤ n → d.size ≤ 1000000 → d.In w → Calls Tryz.prog 69 #[d.v] w (D.New d w) := by
  induction n with
  | zero => intro d w h; have := d.size_eq; omega
  | succ n ih => exact fun d w h1 h2 h3 => copy1_step n d w (by have := d.size_eq; omega) h2 h3 ih
end Go.Proofs.YtbhmeapnmpgggaaGreatDoor
/- conduitref35.Copy: the walk. Conditions: the error lies in the world and is not great. -/
namespace Go.Proofs.YtbhmeapnmpgggaaGreatDoor
open Go.RowKit

/-- what a copy's memory is, the loop aside -/
structure E.Cp3 (w : World) (e : E) (b : D) (A' : Option Addr) (c' : Nat) (W3 : World) : Prop where
  below : Below w.heap.size w W3
  big : w.heap.size + 3 ≤ W3.heap.size
  bin : b.In W3
  bbare : b.bare = e.body.bare
  ball : b.All (w.heap.size + 3 ≤ ·)
  cin : CodesIn W3 A' e.codes
  call : e.codes ≠ [] → ∀ ad, A' = some ad → w.heap.size + 3 ≤ ad.block
  cle : e.codes.length ≤ c' ∧ c' ≤ 9223372036854775807
  b1 : Blk W3 (w.heap.size + 1) 29 #[.int .i64 0, .int .i64 0, .int .i64 0, .string ⟨#[]⟩, .int .i64 0, .int .i64 0, .int .u64 0, .string ⟨#[]⟩, .slice none 0 0, .slice none 0 0, .slice none 0 0]
/-- the copy, in whatever world in which its blocks stay -/
theorem E.Cp3.new {w : World} {e : E} {b : D} {A' : Option Addr} {c' : Nat} {W3 wr w' : World} {pre : Array Value} {s : Value} {es : List E} (h : E.Cp3 w e b A' c' W3) (hr : e.Rng) (hC : E.Cl W3 (w.heap.size + 2) pre e.l e.l.length s es wr)
    (hk : ∀ k, w.heap.size + 3 ≤ k → k < wr.heap.size → w'.heap[k]? = wr.heap[k]?) (hb : Below w.heap.size w w') :
    ∃ sA sc, s = .slice sA es.length sc ∧ E.New e w (.returned (E.mk e.k e.id e.code e.t b A' c' e.codes sA sc es).v) w' := by
  have hrow : E.Row W3.heap.size w' s es := hC.row.turn fun k h1 h2 => hk k (Nat.le_trans h.big h1) h2
  obtain ⟨sA, sc, e1, q1, q2, q3, q4⟩ := hrow.list
  obtain ⟨r1, r2, r3, r4, r5, r6, r7, r8, r9, r10⟩ := hr
  have hb3 : ∀ k, w.heap.size + 3 ≤ k → k < W3.heap.size → w'.heap[k]? = W3.heap[k]? := fun k h1 h2 => (hk k h1 (Nat.lt_of_lt_of_le h2 hC.kept.size)).trans (hC.kept.block k h2 (by simp; omega))
  refine ⟨sA, sc, e1, E.mk e.k e.id e.code e.t b A' c' e.codes sA sc es, rfl, ⟨⟨r1, r2, r3, r4, h.cle.1, h.cle.2, r7, q2, q3, r10⟩, ?_, ?_, q1⟩, ?_, ?_, hb⟩
  · exact h.bin.turn (P := fun k => w.heap.size + 3 ≤ k ∧ k < W3.heap.size) (fun k hk => hb3 k hk.1 hk.2) (h.ball.and h.bin.all)
  · refine h.cin.turn fun hn ad ha => hb3 _ (h.call hn ad ha) ?_
    cases hc : e.codes with
    | nil => exact absurd hc hn
    | cons x l =>
      obtain ⟨ad', e', hc'⟩ := h.cin 0 x (by rw [hc]; rfl)
      rw [ha] at e'; injection e' with e'; subst e'
      have := lt_of_cell hc'
      rwa [block_of_add] at this
  · rw [E.bare, h.bbare, hC.bare, List.take_length]
    cases e; rw [E.bare]; rfl
  · exact ⟨h.ball.mono (fun g hg => by omega), fun hn ad ha => by have := h.call hn ad ha; omega, E.AllL.mono (fun g hg => by have := h.big; omega) q4⟩


theorem elemE : Tryz.prog.elem 27 = 29 := by kernel_rfl
theorem underE : Tryz.prog.underlying 27 = some (.slice (Tryz.prog.elem 27)) := by kernel_rfl
theorem sizeE : (Tryz.prog.info? 29).map (·.size) = some 11 := by kernel_rfl
/-- an append whose run is known -/
theorem wpList_append_run {P : Program} {ops : Array Oper} {rest : List Oper} {o : Oper} {a : Act} {w w' : World} {Q : Exit → Act → World → Prop} (hgd : o.guard = none) (s x : Operand) (t : TypeId)
    (ho : o.op = .call { callee := .builtin .append, args := #[s, x], argTypes := #[t, t] }) (va vb v : Value) (hs : a.eval s = va) (hx : a.eval x = vb) (hr : (Builtin.append_ #[t, t] o.type #[va, vb]).run P w = .ok v w')
    (h : wpList P ops Q rest (a.put o.dst v) w') : wpList P ops Q (o :: rest) a w := by
  refine wpList_plain hgd fun K hK => ?_
  unfold Oper.wp execOp
  simp only [ho, resolve, invoke, builtin, Sem.run_bind, Sem.run_pure, Result.andThen_ok, List.map_toArray, List.map_cons, List.map_nil, hs, hx, hr]
  exact hK _ _ h
set_option maxRecDepth 100000 in
/-- codes appended to no slice -/
theorem append_codes (l : List Int) (A : Option Addr) (c : Nat) (w : World) (hl : CodesIn w A l) (hlen : l.length ≤ 1000000) : ∃ A' c' w', (Builtin.append_ #[26, 26] 26 #[.slice none 0 0, .slice A l.length c]).run Tryz.prog w = .ok (.slice A' l.length c') w' ∧
    CodesIn w' A' l ∧ (l ≠ [] → ∀ ad, A' = some ad → w.heap.size ≤ ad.block) ∧ (l.length ≤ c' ∧ c' ≤ 9223372036854775807) ∧ Below w.heap.size w w' := by
  cases A with
  | none =>
    have : l = [] := by
      cases l with
      | nil => rfl
      | cons x l => obtain ⟨ad, e, _⟩ := hl 0 x rfl; cases e
    subst this
    exact ⟨none, 0, w, by kernel_rfl, fun q x hq => by simp at hq, fun h => absurd rfl h, by simp, Below.refl _ _⟩
  | some ad =>
    obtain ⟨i0, hi, hz0, hz1, hz2⟩ := info_parts infoI
    obtain ⟨v', w', hr, h2, h3, h4, h5⟩ := run_append_own_at (P := Tryz.prog) w w.heap.size 26 26 2 i0 (.int .i64 0) 1 8 Tryz.underlying26 hi hz0 hz1 hz2 rfl (by decide) _ 0 [] (World.ownsRow_nil _ _ _ _) ad l.length c (l.map (Value.int .i64)) (by simp)
      (fun j u hu => by
        rw [List.getElem?_map] at hu
        obtain ⟨x, hx, rfl⟩ := Option.map_eq_some_iff.1 hu
        obtain ⟨ad', e, hc⟩ := hl j x hx
        injection e with e
        subst e
        exact hc) (fun u hu => by simp at hu; obtain ⟨a, _, rfl⟩ := hu; rfl) (by unfold maxLen; omega) (by omega) (Nat.le_refl _)
    rw [Nat.zero_add, List.nil_append] at h2
    obtain ⟨A', c', rfl, k1, k2, k3, k4⟩ := own_codes h2
    exact ⟨A', c', w', hr, k1, fun _ => k2, ⟨k3, k4⟩, (Below.refl _ _).grown h3 (Nat.le_refl _) (fun k hk => by cases hk)⟩
/-- the body is stored, the codes are struck -/
theorem copyE_two {w w1 : World} {e : E} {b : D} (hB : Blk w1 w.heap.size 29 e.cs.toArray ∧ Blk w1 (w.heap.size + 1) 29 #[.int .i64 0, .int .i64 0, .int .i64 0, .string ⟨#[]⟩, .int .i64 0, .int .i64 0, .int .u64 0, .string ⟨#[]⟩, .slice none 0 0, .slice none 0 0, .slice none 0 0] ∧ Blk w1 (w.heap.size + 2) 29 e.cs.toArray ∧ Below w.heap.size w w1 ∧ w.heap.size + 3 ≤ w1.heap.size)
    (k1 : b.In w1) (k3 : b.All (w.heap.size + 3 ≤ ·)) {W2 : World}
    (hW2 : W2 = (((((w1.setCell ⟨w.heap.size + 2, 4, none⟩ (.int .i64 b.k)).setCell ⟨w.heap.size + 2, 5, none⟩ (.int .i64 b.i)).setCell ⟨w.heap.size + 2, 6, none⟩ (.int .u64 b.b)).setCell ⟨w.heap.size + 2, 7, none⟩ (.string b.t)).setCell ⟨w.heap.size + 2, 8, none⟩ (.slice b.A b.l.length b.c)).setCell ⟨w.heap.size + 2, 9, none⟩ (.slice none 0 0)) :
    Blk W2 w.heap.size 29 e.cs.toArray ∧ Blk W2 (w.heap.size + 1) 29 #[.int .i64 0, .int .i64 0, .int .i64 0, .string ⟨#[]⟩, .int .i64 0, .int .i64 0, .int .u64 0, .string ⟨#[]⟩, .slice none 0 0, .slice none 0 0, .slice none 0 0] ∧ Blk W2 (w.heap.size + 2) 29 #[.int .i64 e.k, .int .i64 e.id, .int .i64 e.code, .string e.t, .int .i64 b.k, .int .i64 b.i, .int .u64 b.b, .string b.t, .slice b.A b.l.length b.c, .slice none 0 0, .slice e.A e.l.length e.c] ∧
      Below w.heap.size w W2 ∧ w.heap.size + 3 ≤ W2.heap.size ∧ b.In W2 := by
  obtain ⟨hB0, hB1, hB2, hb, hz⟩ := hB
  have f2 : ∀ q, q ≠ w.heap.size + 2 → W2.heap[q]? = w1.heap[q]? := fun q hq => by
    subst hW2
    repeat rw [Below.heap_setCell _ _ _ _ (by show q ≠ w.heap.size + 2; exact hq)]
  refine ⟨(f2 _ (by omega)).trans hB0, (f2 _ (by omega)).trans hB1, ?_, hb.trans ?_, ?_, k1.turn (P := (w.heap.size + 3 ≤ ·)) (fun q hq => f2 q (by omega)) k3⟩
  · subst hW2
    have := (((((hB2.set_ 4 (.int .i64 b.k)).set_ 5 (.int .i64 b.i)).set_ 6 (.int .u64 b.b)).set_ 7 (.string b.t)).set_ 8 (.slice b.A b.l.length b.c)).set_ 9 (.slice none 0 0)
    simpa [E.cs] using this
  · subst hW2
    iterate 6 refine Below.setCell ?_ (Nat.le_add_right _ _) _
    exact Below.refl _ _
  · subst hW2
    simpa [World.setCell] using hz
/-- the codes are stored, the list is struck: the loop begins -/
theorem copyE_three {w W2 w5 : World} {e : E} {b : D} (hB : Blk W2 w.heap.size 29 e.cs.toArray ∧ Blk W2 (w.heap.size + 1) 29 #[.int .i64 0, .int .i64 0, .int .i64 0, .string ⟨#[]⟩, .int .i64 0, .int .i64 0, .int .u64 0, .string ⟨#[]⟩, .slice none 0 0, .slice none 0 0, .slice none 0 0] ∧ Blk W2 (w.heap.size + 2) 29 #[.int .i64 e.k, .int .i64 e.id, .int .i64 e.code, .string e.t, .int .i64 b.k, .int .i64 b.i, .int .u64 b.b, .string b.t, .slice b.A b.l.length b.c, .slice none 0 0, .slice e.A e.l.length e.c] ∧
      Below w.heap.size w W2 ∧ w.heap.size + 3 ≤ W2.heap.size ∧ b.In W2) (k2 : b.bare = e.body.bare) (k3 : b.All (w.heap.size + 3 ≤ ·))
    {A' : Option Addr} {c' : Nat} (hc : CodesIn w5 A' e.codes) (hca : e.codes ≠ [] → ∀ ad, A' = some ad → W2.heap.size ≤ ad.block) (hcl : e.codes.length ≤ c' ∧ c' ≤ 9223372036854775807) (h5 : Below W2.heap.size W2 w5) {W3 : World}
    (hW3 : W3 = (w5.setCell ⟨w.heap.size + 2, 9, none⟩ (.slice A' e.codes.length c')).setCell ⟨w.heap.size + 2, 10, none⟩ (.slice none 0 0)) :
    E.Cp3 w e b A' c' W3 ∧ Blk W3 w.heap.size 29 e.cs.toArray ∧ Blk W3 (w.heap.size + 2) 29 #[.int .i64 e.k, .int .i64 e.id, .int .i64 e.code, .string e.t, .int .i64 b.k, .int .i64 b.i, .int .u64 b.b, .string b.t, .slice b.A b.l.length b.c, .slice A' e.codes.length c', .slice none 0 0] := by
  obtain ⟨hB0, hB1, hB2, hb, hz, k1⟩ := hB
  have f3 : ∀ q, q ≠ w.heap.size + 2 → W3.heap[q]? = w5.heap[q]? := fun q hq => by
    subst hW3
    repeat rw [Below.heap_setCell _ _ _ _ (by show q ≠ w.heap.size + 2; exact hq)]
  have far : ∀ q, q ≠ w.heap.size + 2 → q < W2.heap.size → W3.heap[q]? = W2.heap[q]? := fun q h1 h2 => (f3 q h1).trans (h5.block q h2)
  have hsz : W3.heap.size = w5.heap.size := by subst hW3; simp [World.setCell]
  have hca' : e.codes ≠ [] → ∀ ad, A' = some ad → w.heap.size + 3 ≤ ad.block := fun hn ad ha => Nat.le_trans hz (hca hn ad ha)
  refine ⟨⟨hb.trans ((h5.mono (by omega)).trans ?_), ?_, ?_, k2, k3, ?_, hca', hcl, ?_⟩, ?_, ?_⟩
  · subst hW3
    iterate 2 refine Below.setCell ?_ (Nat.le_add_right _ _) _
    exact Below.refl _ _
  · have := h5.size; omega
  · exact k1.turn (P := fun q => w.heap.size + 3 ≤ q ∧ q < W2.heap.size) (fun q hq => far q (by omega) hq.2) (k3.and k1.all)
  · exact hc.turn fun hn ad ha => f3 _ (by have := hca' hn ad ha; omega)
  · exact (far _ (by omega) hB1.lt).trans hB1
  · exact (far _ (by omega) hB0.lt).trans hB0
  · subst hW3
    have := ((hB2.below h5 hB2.lt).set_ 9 (.slice A' e.codes.length c')).set_ 10 (.slice none 0 0)
    simpa using this

set_option maxHeartbeats 2000000 in
set_option maxRecDepth 100000 in
theorem copyE_step (n : Nat) (e : E) (w : World) (hn : E.sizeL e.l ≤ n) (hs : e.Small) (he : e.In w)
    (ih : ∀ (x : E) (w : World), x.size ≤ n → x.Small → x.In w → Calls Tryz.prog 29 #[x.v] w (E.New x w)) :
    Calls Tryz.prog 29 #[e.v] w (E.New e w) := by
  have hrg := he.rng
  obtain ⟨k, id, code, t, body, cA, cc, codes, A, c, l⟩ := e
  have HE : Hid (∀ q x, l[q]? = some x → (∃ ad, A = some ad ∧ At w (ad.add (q * 11)) x.cs) ∧ (x.size ≤ n ∧ x.Small ∧ x.In w)) := Lib.hid fun q x h =>
    ⟨(he.at_ h).1, Nat.le_trans (E.sizeL_le h) hn, hs.2.2.2.at_ h, (he.at_ h).2⟩
  have Hcb : Hid (∀ W, Below w.heap.size w W → Calls Tryz.prog 69 #[body.v] W (D.New body W)) := Lib.hid fun W h => copy1_any body.size body W (Nat.le_refl _) hs.1 (he.bod.below h)
  have Hci : Hid (CodesIn w cA codes) := he.cod
  have hclen : codes.length ≤ 1000000 := hs.2.1
  have hlen : l.length ≤ 1000000 := hs.2.2.1
  have HRg := Lib.hid hrg
  have hcap : l.length ≤ c ∧ c ≤ 9223372036854775807 := ⟨hrg.2.2.2.2.2.2.2.1, hrg.2.2.2.2.2.2.2.2.1⟩
  have HP : Hid (∀ (b : D) (A' : Option Addr) (c' : Nat) (W3 wr w' : World) (pre : Array Value) (s : Value) (es : List E), E.Cp3 w (E.mk k id code t body cA cc codes A c l) b A' c' W3 → E.Cl W3 (w.heap.size + 2) pre l l.length s es wr →
      (∀ k, w.heap.size + 3 ≤ k → k < wr.heap.size → w'.heap[k]? = wr.heap[k]?) → Below w.heap.size w w' →
      ∃ sA sc, s = .slice sA es.length sc ∧ E.New (E.mk k id code t body cA cc codes A c l) w (.returned (.agg #[.int .i64 k, .int .i64 id, .int .i64 code, .string t, .int .i64 b.k, .int .i64 b.i, .int .u64 b.b, .string b.t, .slice b.A b.l.length b.c, .slice A' codes.length c', .slice sA es.length sc])) w') :=
    Lib.hid fun b A' c' W3 wr w' pre s es h1 h2 h3 h4 => E.Cp3.new h1 HRg.out h2 h3 h4
  obtain ⟨hc1, hc2⟩ := hcap
  have hW : ∀ W, W = (((w.alloc (.cells #[.int .i64 k, .int .i64 id, .int .i64 code, .string t, .int .i64 body.k, .int .i64 body.i, .int .u64 body.b, .string body.t, .slice body.A body.l.length body.c, .slice cA codes.length cc, .slice A l.length c] 29)).alloc (.cells #[.int .i64 0, .int .i64 0, .int .i64 0, .string ⟨#[]⟩, .int .i64 0, .int .i64 0, .int .u64 0, .string ⟨#[]⟩, .slice none 0 0, .slice none 0 0, .slice none 0 0] 29)).alloc (.cells #[.int .i64 k, .int .i64 id, .int .i64 code, .string t, .int .i64 body.k, .int .i64 body.i, .int .u64 body.b, .string body.t, .slice body.A body.l.length body.c, .slice cA codes.length cc, .slice A l.length c] 29)) →
      Blk W w.heap.size 29 #[.int .i64 k, .int .i64 id, .int .i64 code, .string t, .int .i64 body.k, .int .i64 body.i, .int .u64 body.b, .string body.t, .slice body.A body.l.length body.c, .slice cA codes.length cc, .slice A l.length c] ∧ Blk W (w.heap.size + 1) 29 #[.int .i64 0, .int .i64 0, .int .i64 0, .string ⟨#[]⟩, .int .i64 0, .int .i64 0, .int .u64 0, .string ⟨#[]⟩, .slice none 0 0, .slice none 0 0, .slice none 0 0] ∧ Blk W (w.heap.size + 2) 29 #[.int .i64 k, .int .i64 id, .int .i64 code, .string t, .int .i64 body.k, .int .i64 body.i, .int .u64 body.b, .string body.t, .slice body.A body.l.length body.c, .slice cA codes.length cc, .slice A l.length c] ∧ Below w.heap.size w W ∧ W.heap.size = w.heap.size + 3 := fun W h => by
    subst h
    exact ⟨((Blk.new _ _ _).alloc _).alloc _, (Blk.new' (by simp) _ _).alloc _, Blk.new' (by simp) _ _, (((Below.refl _ _).alloc (Nat.le_refl _) _).alloc (by simp) _).alloc (by simp; omega) _, by simp⟩
  have HW := Lib.hid hW
  have H2s : Hid (∀ (w1 : World) (b : D), (Blk w1 w.heap.size 29 #[.int .i64 k, .int .i64 id, .int .i64 code, .string t, .int .i64 body.k, .int .i64 body.i, .int .u64 body.b, .string body.t, .slice body.A body.l.length body.c, .slice cA codes.length cc, .slice A l.length c] ∧ Blk w1 (w.heap.size + 1) 29 #[.int .i64 0, .int .i64 0, .int .i64 0, .string ⟨#[]⟩, .int .i64 0, .int .i64 0, .int .u64 0, .string ⟨#[]⟩, .slice none 0 0, .slice none 0 0, .slice none 0 0] ∧ Blk w1 (w.heap.size + 2) 29 #[.int .i64 k, .int .i64 id, .int .i64 code, .string t, .int .i64 body.k, .int .i64 body.i, .int .u64 body.b, .string body.t, .slice body.A body.l.length body.c, .slice cA codes.length cc, .slice A l.length c] ∧ Below w.heap.size w w1 ∧ w.heap.size + 3 ≤ w1.heap.size) → b.In w1 → b.All (w.heap.size + 3 ≤ ·) → ∀ (W2 : World),
      W2 = (((((w1.setCell ⟨w.heap.size + 2, 4, none⟩ (.int .i64 b.k)).setCell ⟨w.heap.size + 2, 5, none⟩ (.int .i64 b.i)).setCell ⟨w.heap.size + 2, 6, none⟩ (.int .u64 b.b)).setCell ⟨w.heap.size + 2, 7, none⟩ (.string b.t)).setCell ⟨w.heap.size + 2, 8, none⟩ (.slice b.A b.l.length b.c)).setCell ⟨w.heap.size + 2, 9, none⟩ (.slice none 0 0) →
      Blk W2 w.heap.size 29 #[.int .i64 k, .int .i64 id, .int .i64 code, .string t, .int .i64 body.k, .int .i64 body.i, .int .u64 body.b, .string body.t, .slice body.A body.l.length body.c, .slice cA codes.length cc, .slice A l.length c] ∧ Blk W2 (w.heap.size + 1) 29 #[.int .i64 0, .int .i64 0, .int .i64 0, .string ⟨#[]⟩, .int .i64 0, .int .i64 0, .int .u64 0, .string ⟨#[]⟩, .slice none 0 0, .slice none 0 0, .slice none 0 0] ∧ Blk W2 (w.heap.size + 2) 29 #[.int .i64 k, .int .i64 id, .int .i64 code, .string t, .int .i64 b.k, .int .i64 b.i, .int .u64 b.b, .string b.t, .slice b.A b.l.length b.c, .slice none 0 0, .slice A l.length c] ∧ Below w.heap.size w W2 ∧ w.heap.size + 3 ≤ W2.heap.size ∧ b.In W2) :=
    Lib.hid fun w1 b h1 h2 h3 W2 h4 => copyE_two (e := (E.mk k id code t body cA cc codes A c l)) h1 h2 h3 h4
  have H3s : Hid (∀ (W2 w5 : World) (b : D), (Blk W2 w.heap.size 29 #[.int .i64 k, .int .i64 id, .int .i64 code, .string t, .int .i64 body.k, .int .i64 body.i, .int .u64 body.b, .string body.t, .slice body.A body.l.length body.c, .slice cA codes.length cc, .slice A l.length c] ∧ Blk W2 (w.heap.size + 1) 29 #[.int .i64 0, .int .i64 0, .int .i64 0, .string ⟨#[]⟩, .int .i64 0, .int .i64 0, .int .u64 0, .string ⟨#[]⟩, .slice none 0 0, .slice none 0 0, .slice none 0 0] ∧ Blk W2 (w.heap.size + 2) 29 #[.int .i64 k, .int .i64 id, .int .i64 code, .string t, .int .i64 b.k, .int .i64 b.i, .int .u64 b.b, .string b.t, .slice b.A b.l.length b.c, .slice none 0 0, .slice A l.length c] ∧ Below w.heap.size w W2 ∧ w.heap.size + 3 ≤ W2.heap.size ∧ b.In W2) →
      b.bare = body.bare → b.All (w.heap.size + 3 ≤ ·) → ∀ (A' : Option Addr) (c' : Nat), CodesIn w5 A' codes → (codes ≠ [] → ∀ ad, A' = some ad → W2.heap.size ≤ ad.block) → codes.length ≤ c' ∧ c' ≤ 9223372036854775807 → Below W2.heap.size W2 w5 → ∀ (W3 : World),
      W3 = (w5.setCell ⟨w.heap.size + 2, 9, none⟩ (.slice A' codes.length c')).setCell ⟨w.heap.size + 2, 10, none⟩ (.slice none 0 0) →
      E.Cp3 w (E.mk k id code t body cA cc codes A c l) b A' c' W3 ∧ Blk W3 w.heap.size 29 #[.int .i64 k, .int .i64 id, .int .i64 code, .string t, .int .i64 body.k, .int .i64 body.i, .int .u64 body.b, .string body.t, .slice body.A body.l.length body.c, .slice cA codes.length cc, .slice A l.length c] ∧ Blk W3 (w.heap.size + 2) 29 #[.int .i64 k, .int .i64 id, .int .i64 code, .string t, .int .i64 b.k, .int .i64 b.i, .int .u64 b.b, .string b.t, .slice b.A b.l.length b.c, .slice A' codes.length c', .slice none 0 0]) :=
    Lib.hid fun W2 w5 b h1 h2 h3 A' c' h4 h5 h6 h7 W3 h8 => copyE_three (e := (E.mk k id code t body cA cc codes A c l)) h1 h2 h3 h4 h5 h6 h7 h8
  clear hn he hs hW hrg
  generalize hR : E.New (E.mk k id code t body cA cc codes A c l) w = R at HP ⊢
  clear hR
  simp only [E.v, E.cs, E.k_mk, E.id_mk, E.code_mk, E.t_mk, E.body_mk, E.cA_mk, E.cc_mk, E.codes_mk, E.A_mk, E.c_mk, E.l_mk]
  simp only [D.v, D.cs] at Hcb
  go_enter Tryz.func29, Tryz.ntmps29
  go_wp2_with fail
  obtain ⟨b1, b2, b3, b4, b5⟩ := HW.out _ rfl
  clear HW
  generalize ((w.alloc _).alloc _).alloc _ = W1 at *
  refine (Hcb.out W1 b4).mono ?_
  rintro en w1 ⟨b, rfl, k1, k2, k3, k4⟩
  have HB : Hid (Blk w1 w.heap.size 29 #[.int .i64 k, .int .i64 id, .int .i64 code, .string t, .int .i64 body.k, .int .i64 body.i, .int .u64 body.b, .string body.t, .slice body.A body.l.length body.c, .slice cA codes.length cc, .slice A l.length c] ∧ Blk w1 (w.heap.size + 1) 29 #[.int .i64 0, .int .i64 0, .int .i64 0, .string ⟨#[]⟩, .int .i64 0, .int .i64 0, .int .u64 0, .string ⟨#[]⟩, .slice none 0 0, .slice none 0 0, .slice none 0 0] ∧ Blk w1 (w.heap.size + 2) 29 #[.int .i64 k, .int .i64 id, .int .i64 code, .string t, .int .i64 body.k, .int .i64 body.i, .int .u64 body.b, .string body.t, .slice body.A body.l.length body.c, .slice cA codes.length cc, .slice A l.length c] ∧ Below w.heap.size w w1 ∧ w.heap.size + 3 ≤ w1.heap.size) := ⟨b1.to k4, b2.to k4, b3.to k4, b4.trans (k4.mono b4.size), by have := k4.size; omega⟩
  have HK : Hid (b.In w1 ∧ b.bare = body.bare ∧ b.All (w.heap.size + 3 ≤ ·)) := ⟨k1, k2, k3.mono fun g hg => by omega⟩
  clear b1 b2 b3 b4 b5 k1 k2 k3 k4 Hcb
  simp only [D.v, D.cs]
  have B0 := HB.out.1
  have B2 := HB.out.2.2.1
  have a9 := B0.cell 9
  have a10 := B0.cell 10
  have c0 := B2.cell 0
  have c1 := B2.cell 1
  have c2 := B2.cell 2
  have c3 := B2.cell 3
  have c4 := B2.cell 4
  have c5 := B2.cell 5
  have c6 := B2.cell 6
  have c7 := B2.cell 7
  have c8 := B2.cell 8
  have c9 := B2.cell 9
  have c10 := B2.cell 10
  have e0 := B2.frozen 0
  have e1 := B2.frozen 1
  have e2 := B2.frozen 2
  have e3 := B2.frozen 3
  have e4 := B2.frozen 4
  have e5 := B2.frozen 5
  have e6 := B2.frozen 6
  have e7 := B2.frozen 7
  have e8 := B2.frozen 8
  have e9 := B2.frozen 9
  have e10 := B2.frozen 10
  simp at a9 a10 c0 c1 c2 c3 c4 c5 c6 c7 c8 c9 c10
  clear B0 B2
  have hz := HB.out.2.2.2.2
  go_upto_region 4 with fail
  have H2 := Lib.hid (H2s.out w1 b HB.out HK.out.1 HK.out.2.2 _ rfl)
  generalize (((((w1.setCell _ _).setCell _ _).setCell _ _).setCell _ _).setCell _ _).setCell _ _ = W2 at *
  clear c0 c1 c2 c3 c4 c5 c6 c7 c8 c9 c10 e0 e1 e2 e3 e4 e5 e6 e7 e8 e9 e10 a9 a10 hz H2s
  have HK2 : Hid (b.bare = body.bare ∧ b.All (w.heap.size + 3 ≤ ·)) := Lib.hid HK.out.2
  clear HK HB
  obtain ⟨A', c', w5, hrun, m1, m2, m3, m4⟩ := append_codes codes cA cc W2 (Hci.out.below H2.out.2.2.2.1) hclen
  have HM : Hid (CodesIn w5 A' codes ∧ (codes ≠ [] → ∀ ad, A' = some ad → W2.heap.size ≤ ad.block) ∧ (codes.length ≤ c' ∧ c' ≤ 9223372036854775807) ∧ Below W2.heap.size W2 w5) := ⟨m1, m2, m3, m4⟩
  have a9 := H2.out.1.cell 9
  have a10 := (H2.out.1.to m4).cell 10
  have c9 := H2.out.2.2.1.cell 9
  have B5 := H2.out.2.2.1.to m4
  have d9 := B5.cell 9
  have d10 := B5.cell 10
  have f9 := B5.frozen 9
  have f10 := B5.frozen 10
  simp at a9 a10 c9 d9 d10
  clear m1 m2 m3 m4 B5
  have HRun := Lib.hid hrun
  clear hrun
  go_upto_region 6 with (at_builtin; refine wpList_append_run rfl _ _ 26 rfl _ _ _ rfl rfl HRun.out ?_)
  have H3 := Lib.hid (H3s.out W2 w5 b H2.out HK2.out.1 HK2.out.2 A' c' HM.out.1 HM.out.2.1 HM.out.2.2.1 HM.out.2.2.2 _ rfl)
  generalize (w5.setCell _ _).setCell _ _ = W3 at *
  clear a9 a10 c9 d9 d10 f9 f10 HRun H3s HM H2 HK2
  have a10 := H3.out.2.1.cell 10
  simp at a10
  have hz3 := H3.out.1.big
  go_wp2_with fail
  clear a10
  go_loopg [21] l.length (fun gk i wr => ∃ (j : Nat) (s : Value) (es : List E), i = .int .i64 j ∧ j + gk = l.length ∧ Hid (E.Cl W3 (w.heap.size + 2) #[.int .i64 k, .int .i64 id, .int .i64 code, .string t, .int .i64 b.k, .int .i64 b.i, .int .u64 b.b, .string b.t, .slice b.A b.l.length b.c, .slice A' codes.length c'] l j s es wr))
  case atStart => exact ⟨0, .slice none 0 0, [], rfl, by omega, Kept.refl _ _, E.Row.nil _ _, rfl, H3.out.2.2⟩
  case round =>
    obtain ⟨j, s, es, rfl, hj, hC⟩ := hrel
    by_cases hlt : j < l.length
    · obtain ⟨x, ex⟩ : ∃ x, l[j]? = some x := ⟨_, List.getElem?_eq_getElem hlt⟩
      obtain ⟨⟨ad, rfl, h1⟩, hx⟩ := HE.out j x ex
      have HX := Lib.hid hx
      have Hex := Lib.hid ex
      have H1 := Lib.hid h1
      clear hx ex h1
      go_wp2_with fail
      have hCr := hC.out
      have hbw : Below w.heap.size w wr := H3.out.1.below.trans (hCr.kept.below (by omega) (by simp))
      have HR := Lib.hid hCr.row
      have hBz : W3.heap.size ≤ wr.heap.size := hCr.kept.size
      have hlen2 : es.length ≤ 1000000 := by have := hCr.len (by omega); omega
      have HK := Lib.hid hCr.b0
      have Hkp := Lib.hid hCr.kept
      have HK0 := Lib.hid (H3.out.2.1.kept hCr.kept (by simp))
      have Hbw := Lib.hid hbw
      have hg3 : w.heap.size + 2 < W3.heap.size := by omega
      have Hs := Lib.hid (fun W (h : Below wr.heap.size wr W) => (HK.out.below h HK.out.lt).cell 10)
      have Hl := Lib.hid (fun W (h : Below wr.heap.size wr W) => (HK0.out.below h HK0.out.lt).cell 10)
      have Hx := Lib.hid (fun W (h : Below wr.heap.size wr W) => H1.out.below (hbw.trans (h.mono hbw.size)))
      have Hc := Lib.hid (fun W (h : Below wr.heap.size wr W) => ih x W HX.out.1 HX.out.2.1 (HX.out.2.2.below (hbw.trans (h.mono hbw.size))))
      have Hbare := Lib.hid hCr.bare
      clear hCr hbw hC
      have uE := Tryz.underlying29
      have uS := Tryz.underlying27
      simp only [E.v, E.cs] at Hc Hx
      refine wp_region_eachC (by kernel_rfl) (by kernel_rfl) (fun done a w' => ∃ x24 x25 x26 x27 x28 x29 x30 x31 x32 x33 x34, a = ⟨#[Value.agg #[Value.int IntKind.i64 k, Value.int IntKind.i64 id, Value.int IntKind.i64 code, Value.string t, Value.int IntKind.i64 body.k, Value.int IntKind.i64 body.i, Value.int IntKind.u64 body.b, Value.string body.t, Value.slice body.A body.l.length body.c, Value.slice cA codes.length cc, Value.slice (some ad) l.length c], Value.pointer (some ⟨w.heap.size, 0, none⟩), Value.pointer (some ⟨w.heap.size + 1, 0, none⟩), Value.pointer (some ⟨w.heap.size + 2, 0, none⟩), Value.int IntKind.i64 ↑j, Value.agg #[Value.int IntKind.i64 k, Value.int IntKind.i64 id, Value.int IntKind.i64 code, Value.string t, Value.int IntKind.i64 body.k, Value.int IntKind.i64 body.i, Value.int IntKind.u64 body.b, Value.string body.t, Value.slice body.A body.l.length body.c, Value.slice cA codes.length cc, Value.slice (some ad) l.length c], Value.pointer (some ⟨w.heap.size, 4, none⟩), Value.agg #[Value.int IntKind.i64 body.k, Value.int IntKind.i64 body.i, Value.int IntKind.u64 body.b, Value.string body.t, Value.slice body.A body.l.length body.c], Value.agg #[Value.int IntKind.i64 b.k, Value.int IntKind.i64 b.i, Value.int IntKind.u64 b.b, Value.string b.t, Value.slice b.A b.l.length b.c], Value.pointer (some ⟨w.heap.size + 2, 4, none⟩), Value.pointer (some ⟨w.heap.size + 2, 9, none⟩), Value.pointer (some ⟨w.heap.size + 2, 9, none⟩), Value.slice none 0 0, Value.pointer (some ⟨w.heap.size, 9, none⟩), Value.slice cA codes.length cc, Value.slice A' codes.length c', Value.pointer (some ⟨w.heap.size + 2, 9, none⟩), Value.pointer (some ⟨w.heap.size + 2, 10, none⟩), Value.pointer (some ⟨w.heap.size, 10, none⟩), Value.slice (some ad) l.length c, Value.int IntKind.i64 ↑l.length, Value.int IntKind.i64 ↑j, Value.bool true, Value.int IntKind.i64 ↑j, x24, x25, x26, x27, x28, x29, x30, x31, x32, x33, x34, u35, undef], []⟩ ∧ AppJ wr ⟨w.heap.size + 2, 10, none⟩ (E.Got wr x) (E.Boxed wr x) (E.Put (W3.heap.size) wr s es x) (done 7) (done 8) (done 9) (done 11) x31 x32 x33 w' ∧ (done 0 = true → x24 = Value.pointer (some ⟨w.heap.size + 2, 10, none⟩)) ∧ (done 1 = true → x25 = s) ∧ (done 2 = true → x26 = Value.pointer (some ⟨w.heap.size, 10, none⟩)) ∧ (done 3 = true → x27 = Value.slice (some ad) l.length c) ∧ (done 4 = true → x28 = Value.int IntKind.i64 ↑j) ∧ (done 5 = true → x29 = Value.pointer (some (ad.add (j * 11)))) ∧ (done 6 = true → x30 = Value.agg #[Value.int IntKind.i64 x.k, Value.int IntKind.i64 x.id, Value.int IntKind.i64 x.code, Value.string x.t, Value.int IntKind.i64 x.body.k, Value.int IntKind.i64 x.body.i, Value.int IntKind.u64 x.body.b, Value.string x.body.t, Value.slice x.body.A x.body.l.length x.body.c, Value.slice x.cA x.codes.length x.cc, Value.slice x.A x.l.length x.c]) ∧ (done 10 = true → x34 = Value.pointer (some ⟨w.heap.size + 2, 10, none⟩))) ?_ ?_ ?_
      · refine ⟨_, _, _, _, _, _, _, _, _, _, _, rfl, AppJ.start _ _ _ _ _ _ _ _, ?_⟩
        simp
      · refine ⟨?_, ?_, ?_, ?_, ?_, ?_, ?_, ?_, ?_, ?_, ?_, ?_, trivial⟩
        · rintro done a wx hd he ⟨x24, x25, x26, x27, x28, x29, x30, x31, x32, x33, x34, rfl, hB, i0, i1, i2, i3, i4, i5, i6, i10⟩ hcl K hK
          refine step_wp rfl (wp_value (Value.pointer (some ⟨w.heap.size + 2, 10, none⟩)) (by kernel_rfl) ?_)
          exact hK _ _ ⟨_, x25, x26, x27, x28, x29, x30, x31, x32, x33, x34, rfl, hB, fun _ => rfl, i1, i2, i3, i4, i5, i6, i10⟩
        · rintro done a wx hd he ⟨x24, x25, x26, x27, x28, x29, x30, x31, x32, x33, x34, rfl, hB, i0, i1, i2, i3, i4, i5, i6, i10⟩ hcl K hK
          simp [Region.binds] at he
          obtain rfl := i0 (by simp [he])
          have hda := hcl.not (a := 9) (by kernel_rfl) (by omega) hd
          refine step_wp rfl (wp_load_cell 27 _ rfl ⟨w.heap.size + 2, 10, none⟩ rfl _ _ (Hs.out wx (hB.first hda).2.1) uS rfl ?_)
          exact hK _ _ ⟨_, _, x26, x27, x28, x29, x30, x31, x32, x33, x34, rfl, hB, fun _ => rfl, fun _ => rfl, i2, i3, i4, i5, i6, i10⟩
        · rintro done a wx hd he ⟨x24, x25, x26, x27, x28, x29, x30, x31, x32, x33, x34, rfl, hB, i0, i1, i2, i3, i4, i5, i6, i10⟩ hcl K hK
          refine step_wp rfl (wp_value (Value.pointer (some ⟨w.heap.size, 10, none⟩)) (by kernel_rfl) ?_)
          exact hK _ _ ⟨x24, x25, _, x27, x28, x29, x30, x31, x32, x33, x34, rfl, hB, i0, i1, fun _ => rfl, i3, i4, i5, i6, i10⟩
        · rintro done a wx hd he ⟨x24, x25, x26, x27, x28, x29, x30, x31, x32, x33, x34, rfl, hB, i0, i1, i2, i3, i4, i5, i6, i10⟩ hcl K hK
          simp [Region.binds] at he
          obtain rfl := i2 (by simp [he])
          have hda := hcl.not (a := 9) (by kernel_rfl) (by omega) hd
          refine step_wp rfl (wp_load_cell 27 _ rfl ⟨w.heap.size, 10, none⟩ rfl _ _ (Hl.out wx (hB.first hda).2.1) uS rfl ?_)
          exact hK _ _ ⟨x24, x25, _, _, x28, x29, x30, x31, x32, x33, x34, rfl, hB, i0, i1, fun _ => rfl, fun _ => rfl, i4, i5, i6, i10⟩
        · rintro done a wx hd he ⟨x24, x25, x26, x27, x28, x29, x30, x31, x32, x33, x34, rfl, hB, i0, i1, i2, i3, i4, i5, i6, i10⟩ hcl K hK
          refine step_wp rfl (wp_value (Value.int IntKind.i64 ↑j) (by kernel_rfl) ?_)
          exact hK _ _ ⟨x24, x25, x26, x27, _, x29, x30, x31, x32, x33, x34, rfl, hB, i0, i1, i2, i3, fun _ => rfl, i5, i6, i10⟩
        · rintro done a wx hd he ⟨x24, x25, x26, x27, x28, x29, x30, x31, x32, x33, x34, rfl, hB, i0, i1, i2, i3, i4, i5, i6, i10⟩ hcl K hK
          simp [Region.binds] at he
          obtain rfl := i3 (by simp [he])
          obtain rfl := i4 (by simp [he])
          refine step_wp rfl (wp_value (Value.pointer (some (ad.add (j * 11)))) (idx_any _ _ 11 elemE underE sizeE (.tmp 27) (.tmp 28) ad l.length c j hlt _ _ rfl rfl rfl wx) ?_)
          exact hK _ _ ⟨x24, x25, x26, _, _, _, x30, x31, x32, x33, x34, rfl, hB, i0, i1, i2, fun _ => rfl, fun _ => rfl, fun _ => rfl, i6, i10⟩
        · rintro done a wx hd he ⟨x24, x25, x26, x27, x28, x29, x30, x31, x32, x33, x34, rfl, hB, i0, i1, i2, i3, i4, i5, i6, i10⟩ hcl K hK
          simp [Region.binds] at he
          obtain rfl := i5 (by simp [he])
          have hda := hcl.not (a := 9) (by kernel_rfl) (by omega) hd
          refine step_wp rfl (wp_load_at 29 _ rfl (ad.add (j * 11)) rfl _ _ (Hx.out wx (hB.first hda).2.1) uE rfl sizeE ?_)
          exact hK _ _ ⟨x24, x25, x26, x27, x28, _, _, x31, x32, x33, x34, rfl, hB, i0, i1, i2, i3, i4, fun _ => rfl, fun _ => rfl, i10⟩
        · rintro done a wx hd he ⟨x24, x25, x26, x27, x28, x29, x30, x31, x32, x33, x34, rfl, hB, i0, i1, i2, i3, i4, i5, i6, i10⟩ hcl K hK
          simp [Region.binds] at he
          obtain rfl := i6 (by simp [he])
          have hda := hcl.not (a := 9) (by kernel_rfl) (by omega) hd
          refine step_wp rfl (wp_call (f := 29) (args := #[Value.agg #[Value.int IntKind.i64 x.k, Value.int IntKind.i64 x.id, Value.int IntKind.i64 x.code, Value.string x.t, Value.int IntKind.i64 x.body.k, Value.int IntKind.i64 x.body.i, Value.int IntKind.u64 x.body.b, Value.string x.body.t, Value.slice x.body.A x.body.l.length x.body.c, Value.slice x.cA x.codes.length x.cc, Value.slice x.A x.l.length x.c]]) (by kernel_rfl) (Hc.out wx (hB.first hda).2.1) ?_)
          intro en w1 hn
          obtain ⟨v, hv, hB⟩ := E.step_call hB hda hn
          exact ⟨v, hv, hK _ _ ⟨x24, x25, x26, x27, x28, x29, _, _, x32, x33, x34, rfl, hB, i0, i1, i2, i3, i4, i5, fun _ => rfl, i10⟩⟩
        · rintro done a wx hd he ⟨x24, x25, x26, x27, x28, x29, x30, x31, x32, x33, x34, rfl, hB, i0, i1, i2, i3, i4, i5, i6, i10⟩ hcl K hK
          simp [Region.binds] at he
          have hda := hcl.not (a := 9) (by kernel_rfl) (by omega) hd
          obtain ⟨u, w1, hr, hB⟩ := E.step_box hB hda (by simp [he])
          refine step_wp rfl (wp_box _ _ _ u rfl rfl hr ?_)
          exact hK _ _ ⟨x24, x25, x26, x27, x28, x29, x30, x31, _, x33, x34, rfl, hB, i0, i1, i2, i3, i4, i5, i6, i10⟩
        · rintro done a wx hd he ⟨x24, x25, x26, x27, x28, x29, x30, x31, x32, x33, x34, rfl, hB, i0, i1, i2, i3, i4, i5, i6, i10⟩ hcl K hK
          simp [Region.binds] at he
          obtain rfl := i1 (by simp [he])
          refine step_wp rfl (E.step_append hB hd (by simp [he]) hBz HR.out hlen2 (.tmp 25) (.tmp 32) rfl rfl rfl ?_)
          intro v' w1 hB
          exact hK _ _ ⟨x24, _, x26, x27, x28, x29, x30, x31, x32, _, x34, rfl, hB, i0, fun _ => rfl, i2, i3, i4, i5, i6, i10⟩
        · rintro done a wx hd he ⟨x24, x25, x26, x27, x28, x29, x30, x31, x32, x33, x34, rfl, hB, i0, i1, i2, i3, i4, i5, i6, i10⟩ hcl K hK
          refine step_wp rfl (wp_value (Value.pointer (some ⟨w.heap.size + 2, 10, none⟩)) (by kernel_rfl) ?_)
          exact hK _ _ ⟨x24, x25, x26, x27, x28, x29, x30, x31, x32, x33, _, rfl, hB, i0, i1, i2, i3, i4, i5, i6, fun _ => rfl⟩
        · rintro done a wx hd he ⟨x24, x25, x26, x27, x28, x29, x30, x31, x32, x33, x34, rfl, hB, i0, i1, i2, i3, i4, i5, i6, i10⟩ hcl K hK
          simp [Region.binds] at he
          obtain rfl := i10 (by simp [he])
          refine step_wp rfl (E.step_store hB (by simp [he]) hd HR.out hg3 HK.out (old := s) rfl (.tmp 34) (.tmp 33) rfl rfl rfl ?_)
          intro w1 hB
          exact hK _ _ ⟨x24, x25, x26, x27, x28, x29, x30, x31, x32, x33, _, rfl, hB, i0, i1, i2, i3, i4, i5, i6, fun _ => rfl⟩
      · rintro done a wx hd ⟨x24, x25, x26, x27, x28, x29, x30, x31, x32, x33, x34, rfl, hB, i0, i1, i2, i3, i4, i5, i6, i10⟩
        have dd : ∀ j, j < 12 → done j = true := fun j h => hd j (by simpa using h)
        have hE := hB.third (dd 11 (by omega))
        obtain rfl := i0 (dd 0 (by omega))
        obtain rfl := i1 (dd 1 (by omega))
        obtain rfl := i2 (dd 2 (by omega))
        obtain rfl := i3 (dd 3 (by omega))
        obtain rfl := i4 (dd 4 (by omega))
        obtain rfl := i5 (dd 5 (by omega))
        obtain rfl := i6 (dd 6 (by omega))
        obtain rfl := i10 (dd 10 (by omega))
        clear i0 i1 i2 i3 i4 i5 i6 i10 dd hB
        have hN := E.step_end hE HR.out hg3 Hbw.out (Nat.le_add_right _ _) hBz HK.out
        obtain ⟨x', k1, k2, k3, k4, k5, k6, k7⟩ := hN
        have HN : Hid (E.Cl W3 (w.heap.size + 2) #[.int .i64 k, .int .i64 id, .int .i64 code, .string t, .int .i64 b.k, .int .i64 b.i, .int .u64 b.b, .string b.t, .slice b.A b.l.length b.c, .slice A' codes.length c'] l (j + 1) x33 (es ++ [x']) wx) :=
          ⟨k7 _ _ Hkp.out (Nat.le_refl _) (by simp), k2, E.bareL_snoc Hbare.out Hex.out k1, by simpa using k3⟩
        clear hE k1 k2 k3 k4 k5 k6 k7 Hc Hx Hs HR HK Hbw Hbare hBz uE uS Hkp Hl HK0
        go_wp2_with fail
        go_roundg (gk - 1)
        case measure => omega
        case rel => exact ⟨j + 1, x33, es ++ [x'], by go_num, by omega, HN⟩
    · obtain rfl : j = l.length := by omega
      have hC2 := hC.out
      have hall : Below w.heap.size w wr := H3.out.1.below.trans (hC2.kept.below (by omega) (by simp))
      have HN := Lib.hid (fun w' h1 h2 => HP.out b A' c' W3 wr w' _ s es H3.out.1 hC2 h1 h2)
      obtain ⟨sA, sc, rfl, _⟩ := HN.out wr (fun _ _ _ => rfl) hall
      have HF : Hid (∀ w', (∀ k, w.heap.size + 3 ≤ k → k < wr.heap.size → w'.heap[k]? = wr.heap[k]?) → Below w.heap.size w w' → R (.returned (.agg #[.int .i64 k, .int .i64 id, .int .i64 code, .string t, .int .i64 b.k, .int .i64 b.i, .int .u64 b.b, .string b.t, .slice b.A b.l.length b.c, .slice A' codes.length c', .slice sA es.length sc])) w') := Lib.hid fun w' h1 h2 => by
        obtain ⟨sA', sc', e1, e2⟩ := HN.out w' h1 h2
        injection e1 with e1 _ e3
        subst e1 e3
        exact e2
      have B1 := hC2.b0
      have B2 := H3.out.1.b1.kept hC2.kept (by simp)
      have c0 := B1.cell 0
      have c1 := B1.cell 1
      have c2 := B1.cell 2
      have c3 := B1.cell 3
      have c4 := B1.cell 4
      have c5 := B1.cell 5
      have c6 := B1.cell 6
      have c7 := B1.cell 7
      have c8 := B1.cell 8
      have c9 := B1.cell 9
      have c10 := B1.cell 10
      have d0 := B2.cell 0
      have d1 := B2.cell 1
      have d2 := B2.cell 2
      have d3 := B2.cell 3
      have d4 := B2.cell 4
      have d5 := B2.cell 5
      have d6 := B2.cell 6
      have d7 := B2.cell 7
      have d8 := B2.cell 8
      have d9 := B2.cell 9
      have d10 := B2.cell 10
      have e0 := B2.frozen 0
      have e1 := B2.frozen 1
      have e2 := B2.frozen 2
      have e3 := B2.frozen 3
      have e4 := B2.frozen 4
      have e5 := B2.frozen 5
      have e6 := B2.frozen 6
      have e7 := B2.frozen 7
      have e8 := B2.frozen 8
      have e9 := B2.frozen 9
      have e10 := B2.frozen 10
      simp at c0 c1 c2 c3 c4 c5 c6 c7 c8 c9 c10 d0 d1 d2 d3 d4 d5 d6 d7 d8 d9 d10
      have Hbel := Lib.hid hall
      clear hC hC2 hall HN HE HP H3 B1 B2 hz3
      go_wp2_with fail
      refine bodyPost_ret (v := (.agg #[.int .i64 k, .int .i64 id, .int .i64 code, .string t, .int .i64 b.k, .int .i64 b.i, .int .u64 b.b, .string b.t, .slice b.A b.l.length b.c, .slice A' codes.length c', .slice sA es.length sc])) ?_ rfl (HF.out _ ?_ ?_)
      · simp [results, Tryz.results29, go_sem, d0, d1, d2, d3, d4, d5, d6, d7, d8, d9, d10]
      · intro k hk _
        repeat rw [Below.heap_setCell _ _ _ _ (by show k ≠ w.heap.size + 1; omega)]
      · iterate 11 refine Below.setCell ?_ (Nat.le_succ _) _
        exact Hbel.out

theorem copyE_any (n : Nat) : ∀ (e : E) (w : World), e.size ≤ n → e.Small → e.In w → Calls Tryz.prog 29 #[e.v] w (E.New e w) := by
  induction n with
  | zero => intro e w h; have := e.size_eq; omega
  | succ n ih => exact fun e w h1 h2 h3 => copyE_step n e w (by have := e.size_eq; omega) h2 h3 ih
end Go.Proofs.YtbhmeapnmpgggaaGreatDoor
