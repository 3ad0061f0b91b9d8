/- errs.Text of an error that wraps a plain one, and conduitlaw35.plain: the walks. Condition: the tree lies in the world. -/
import Derived.Test.YtbhmeapnmpgggaaGreatDoorIs4
import Derived.Test.YtbhmeapnmpgggaaGreatDoorValidE
namespace Go.Proofs.YtbhmeapnmpgggaaGreatDoor
open Go.RowKit

def E.plainT (c : Int) (t : ByteArray) : E := .mk 1 0 c t D.zero none 0 [] none 0 []
theorem E.plainT_in (c : Int) (t : ByteArray) (w : World) (hc : -9223372036854775808 ≤ c ∧ c ≤ 9223372036854775807) (ht : t.size ≤ 9223372036854775807) : (E.plainT c t).In w := by
  refine ⟨⟨by simp, by simp, hc, ht, by simp, by simp, by simp, by simp, by simp, fun x h => by simp at h⟩, D.zero_in w, fun q x h => by simp at h, trivial⟩

set_option maxHeartbeats 1000000 in
set_option maxRecDepth 100000 in
theorem plainL_any (c : Int) (w : World) : Calls Tryz.prog 38 #[.int .i64 c] w (Ret (E.plainT c ⟨#[112]⟩).v w) := by
  go_enter Tryz.func38, Tryz.ntmps38
  go_wp2_with fail
  refine bodyPost_ret (v := (E.plainT c ⟨#[112]⟩).v) ?_ rfl ⟨rfl, ?_⟩
  · simp [results, Tryz.results38, go_sem]
    rfl
  · exact (Below.refl _ _).alloc (Nat.le_refl _) _

set_option maxHeartbeats 1000000 in
set_option maxRecDepth 100000 in
theorem plainErr_any (c : Int) (t : ByteArray) (w : World) : Calls Tryz.prog 203 #[.agg #[.int .i64 c, .string t]] w (Ret (.string t) w) := by
  go_enter Tryz.func203, Tryz.ntmps203
  go_wp2_with fail
  go_ret
  exact ⟨rfl, (Below.refl _ _).alloc (Nat.le_refl _) _⟩
theorem methodErr1 (x : Value) : ∀ w, (method 450 106 x "Error").run Tryz.prog w = .ok (203, x) w := fun _ => by kernel_rfl
theorem methodErr3 (g : Nat) : ∀ w, (method 450 107 (.pointer (some ⟨g, 0, none⟩)) "Error").run Tryz.prog w = .ok (205, .pointer (some ⟨g, 0, none⟩)) w := fun _ => by kernel_rfl

set_option maxHeartbeats 1000000 in
set_option maxRecDepth 100000 in
theorem behindP_any (s : ByteArray) (c : Int) (t : ByteArray) (w : World) (hs : s.size ≤ 65535) (ht : t.size ≤ 65535) : Calls Tryz.prog 208 #[.string s, .iface 106 (.agg #[.int .i64 c, .string t])] w (Ret (.string (s ++ ⟨#[58, 32]⟩ ++ t)) w) := by
  have tm := methodErr1 (.agg #[.int .i64 c, .string t])
  have h1 := Lib.hid (fun w => plainErr_any c t w)
  have hz : (⟨#[58, 32]⟩ : ByteArray).size = 2 := rfl
  have hz2 : (s ++ ⟨#[58, 32]⟩ : ByteArray).size = s.size + 2 := by rw [ByteArray.size_append]; rfl
  go_enter Tryz.func208, Tryz.ntmps208
  go_wp2_with fail
  refine (h1.out _).mono ?_
  rintro en w1 ⟨rfl, hb⟩
  have Hb := Lib.hid hb
  clear hb tm h1
  go_wp2_with fail
  go_ret
  exact ⟨rfl, Hb.out⟩

theorem EV.plain {B : Nat} {w : World} {e : E} {v : Value} (hv : EV B w e v) (h : e.k = 1) : v = .iface 106 (.agg #[.int .i64 e.code, .string e.t]) := by
  unfold EV E.okK at hv
  rcases hv with ⟨a, rfl⟩ | ⟨a, _⟩ | ⟨a, _⟩ | ⟨a, _⟩ | ⟨a, _⟩ | ⟨a, _⟩ | ⟨a, _⟩ | ⟨a, _⟩ | ⟨a, _⟩ | ⟨a, rfl⟩ | ⟨a, _⟩
  case inl => rfl
  all_goals (exfalso; omega)

set_option maxHeartbeats 2000000 in
set_option maxRecDepth 100000 in
theorem wrapErrP_any (e x : E) (g : Nat) (w : World) (hg : Blk w g 124 e.cs.toArray) (he : e.In w) (hx : e.l[0]? = some x) (h1 : x.k = 1) (hs : e.t.size ≤ 65535) (ht : x.t.size ≤ 65535) :
    Calls Tryz.prog 205 #[.pointer (some ⟨g, 0, none⟩)] w (Ret (.string (e.t ++ ⟨#[58, 32]⟩ ++ x.t)) w) := by
  have hU : ∀ w', Below w.heap.size w w' → Calls Tryz.prog 206 #[.pointer (some ⟨g, 0, none⟩)] w' (Ret (.iface 106 (.agg #[.int .i64 x.code, .string x.t])) w') := fun w' hb =>
    (unwrapW_any e x g w' (hg.to hb) (he.below hb) hx).mono fun en w2 ⟨v, h, hev, hb2⟩ => ⟨by rw [h, hev.plain h1], hb2⟩
  have hB := Lib.hid (fun w => behindP_any e.t x.code x.t w hs ht)
  have hc : ∀ w', Below w.heap.size w w' → w'.cell? ⟨g, 3, none⟩ = some (.string e.t) := fun w' hb => ((hg.to hb).cell 3)
  have HU := Lib.hid hU
  have HC := Lib.hid hc
  have hd := Lib.hid (Below.refl w.heap.size w).drew
  have hc0 := hc _ hd.out
  clear hg he hx hs ht hU hc
  generalize e.t = s, x.code = c, x.t = t at *
  go_enter Tryz.func205, Tryz.ntmps205
  go_upto_region 1 with fail
  go_region_held2 (fun w' => w'.cell? ⟨g, 3, none⟩ = some (.string s))
    (first
      | go_keep
      | exact HC.out _ hb2.out
      | exact HC.out _ hb1.out)
    (first
      | (go_at_call 208
         refine (hB.out _).mono ?_
         rintro en w2 ⟨rfl, hb2'⟩
         have hb2 := Lib.hid (hb1.out.trans (hb2'.mono hb1.out.size))
         clear hb2')
      | (refine (HU.out _ hd.out).mono ?_
         rintro en w1 ⟨rfl, hb1'⟩
         have hb1 := Lib.hid (hd.out.trans hb1')
         clear hb1'))
  all_goals
    go_wp2_with fail
    go_ret
    exact ⟨rfl, hb2.out⟩

theorem txt_idle (p q : Addr) (w : World) :
    CallsD Tryz.prog 70 #[.pointer (some p), .pointer (some q)] .returning w fun e u' w' => e = .returned (.tuple #[]) ∧ u' = .returning ∧ w' = w := by
  refine callsD_of_wpS Tryz.func70 rfl fun c₀ cs hu => ?_
  apply wpS_seq
  apply wpS_region
  simp [wpOpsS, go_sem, recoverD, hu, Tryz.ntmps70, Exit.thenS]
  refine wpS_cond (t := false) (by simp [Act.eval, Array.replicate]) ?_
  simp only [Bool.false_eq_true, if_false]
  refine wpS_of_wp (wp_skip ?_)
  cases c₀
  simp_all [bodyPostS, results, Tryz.results70]

set_option maxHeartbeats 2000000 in
set_option maxRecDepth 100000 in
theorem textW_any (e x : E) (w : World) (he : e.In w) (hk : e.k = 3) (hx : e.l[0]? = some x) (h1 : x.k = 1) (hs : e.t.size ≤ 65535) (ht : x.t.size ≤ 65535) :
    Calls Tryz.prog 30 #[e.v] w (Ret (.tuple #[.string (e.t ++ ⟨#[58, 32]⟩ ++ x.t), .int .i64 0]) w) := by
  have hmf : ∀ (fn : Fn) (first cap : Array Value) (w : World), (Instr.makeFunc fn first cap).run Tryz.prog w = .ok (.func fn first cap) w := fun _ _ _ _ => rfl
  have hv : ∀ w, Calls Tryz.prog 54 #[e.v] w fun en w' => ∃ g, en = .returned (.iface 107 (.pointer (some ⟨g, 0, none⟩))) ∧ Blk w' g 124 e.cs.toArray ∧ Below w.heap.size w w' := fun w =>
    (valueE_any e w).mono fun en w' ⟨v, h, hev, hb⟩ => by
      obtain ⟨g, _, rfl, h2⟩ := hev.wrap hk
      exact ⟨g, h, h2, hb⟩
  have hE := Lib.hid (fun g w hg he => wrapErrP_any e x g w hg he hx h1 hs ht)
  have HV := Lib.hid hv
  have He := Lib.hid he
  have hW : ∀ W, W = (((w.alloc (.cells e.cs.toArray 29)).alloc (.cells #[.string ⟨#[]⟩] 9)).alloc (.cells #[.int .i64 0] 32)) → Blk W w.heap.size 29 e.cs.toArray ∧ Blk W (w.heap.size + 1) 9 #[.string ⟨#[]⟩] ∧ Blk W (w.heap.size + 2) 32 #[.int .i64 0] ∧ Below w.heap.size w W := fun W h => by
    subst h
    exact ⟨((Blk.new _ _ _).alloc _).alloc _, (Blk.new' (by simp) _ _).alloc _, Blk.new' (by simp) _ _, (((Below.refl _ _).alloc (Nat.le_refl _) _).alloc (by simp) _).alloc (by simp <;> omega) _⟩
  have HW := Lib.hid hW
  have tm := methodErr3
  clear hW hv he hk hx h1 hs ht
  simp only [E.v, E.cs] at HW HV ⊢
  go_enter_defers Tryz.func30, Tryz.ntmps30
  go_wp2_with fail
  obtain ⟨-, b1, b2, b3⟩ := HW.out _ rfl
  clear HW
  generalize ((w.alloc _).alloc _).alloc _ = W at *
  refine (HV.out W).mono ?_
  rintro en w1 ⟨g, rfl, hg, hb⟩
  have hin := He.out.below (b3.trans (hb.mono b3.size))
  have hc := Lib.hid (hE.out g w1 hg hin)
  have b1 := b1.to hb
  have b2 := b2.to hb
  have b3 := b3.trans (hb.mono b3.size)
  have tm := tm g
  have H1 := Lib.hid (And.intro b1 (And.intro b2 b3))
  clear hin hg hb b1 b2 b3 HV hE
  generalize e.t ++ ⟨#[58, 32]⟩ ++ x.t = s at *
  go_wp2_with fail
  refine hc.out.mono ?_
  rintro en w2 ⟨rfl, hb⟩
  have b1' := H1.out.1.to hb
  have b2' := H1.out.2.1.to hb
  have b3 := H1.out.2.2
  have c1 := b1'.cell 0
  have c2 := b2'.cell 0
  have f1 := b1'.frozen 0
  have f2 := b2'.frozen 0
  simp at c1 c2
  have hr := Lib.hid (And.intro (((b3.trans (hb.mono b3.size)).setCell (p := ⟨w.heap.size + 1, 0, none⟩) (by simp) (.string s)).setCell (p := ⟨w.heap.size + 2, 0, none⟩) (by simp) (.int .i64 0)) (And.intro ((b1'.set_ 0 (.string s)).far (p := ⟨w.heap.size + 2, 0, none⟩) (by simp) (.int .i64 0)) ((b2'.far (p := ⟨w.heap.size + 1, 0, none⟩) (by simp) (.string s)).set_ 0 (.int .i64 0))))
  clear b1' b2' b3 hb tm hc H1
  go_wp2_with fail
  have d1 := hr.out.2.1.cell 0
  have d2 := hr.out.2.2.cell 0
  have hb := hr.out.1
  simp only [List.set_toArray, Array.setIfInBounds] at d1 d2
  generalize (w2.setCell _ _).setCell _ _ = W2 at *
  refine leaves_cons (f := 70) (args := #[.pointer (some ⟨w.heap.size + 1, 0, none⟩), .pointer (some ⟨w.heap.size + 2, 0, none⟩)]) (by simp) (by simp [go_sem]) ?_
  refine (txt_idle ⟨w.heap.size + 1, 0, none⟩ ⟨w.heap.size + 2, 0, none⟩ _).mono ?_
  rintro e u' w'' ⟨rfl, rfl, rfl⟩
  clear hr
  simp at d1 d2
  simp [Leaves, settle, results, Tryz.results30, go_sem, d1, d2]
  exact ⟨rfl, hb⟩
end Go.Proofs.YtbhmeapnmpgggaaGreatDoor
/- awake of the statements of layer 35. Condition: the sentinel's variable holds a pointer. -/
namespace Go.Proofs.YtbhmeapnmpgggaaGreatDoor
open Go.RowKit

def E.wrapT (g : Nat) : E := .mk 3 1 0 ⟨#[119]⟩ D.zero none 0 [] (some ⟨g, 0, none⟩) 1 [E.plainT 5 ⟨#[112]⟩]
theorem E.wrapT_in (g : Nat) (w : World) (h : Blk w g 29 (E.plainT 5 ⟨#[112]⟩).cs.toArray) : (E.wrapT g).In w := by
  refine ⟨⟨by simp, by simp, by simp, by simp [ByteArray.size], by simp, by simp, by simp, by simp, by simp, fun x h => by simp at h⟩, D.zero_in w, fun q x h => by simp at h, ⟨⟨⟨g, 0, none⟩, rfl, ?_⟩, E.plainT_in _ _ _ (by simp) (by simp [ByteArray.size]), trivial⟩⟩
  intro q u hq
  have : (Addr.add ⟨g, 0, none⟩ (0 * 11)).add q = ⟨g, q, none⟩ := by
    rw [Nat.zero_mul, add_of_add]; unfold Addr.add; split <;> simp_all
  rw [this, h.cell]
  simpa using hq
theorem E.wrapT_is (bq : D → D → Bool × Bool) (g : Nat) : E.isR bq (E.wrapT g) (E.plainT 5 ⟨#[112]⟩) = (true, false) := by
  rfl
theorem E.wrapT_right (g : Nat) : (E.wrapT g).right = true := by
  rfl
theorem E.wrapT_valid (g : Nat) : (E.wrapT g).valid0 = true := by
  rfl

set_option maxHeartbeats 2000000 in
set_option maxRecDepth 100000 in
theorem awakeE_any (u : Addr) (w : World) (hs : Sen u w) : Calls Tryz.prog 12 #[] w (Ret (.bool true) w) := by
  have h38 : Hid (∀ w, Calls Tryz.prog 38 #[.int .i64 5] w (Ret (.agg #[.int .i64 1, .int .i64 0, .int .i64 5, .string ⟨#[112]⟩, .int .i64 0, .int .i64 0, .int .u64 0, .string ⟨#[]⟩, .slice none 0 0, .slice none 0 0, .slice none 0 0]) w)) := Lib.hid (fun w => plainL_any 5 w)
  have hT := Lib.hid (fun g w hin => textW_any (E.wrapT g) (E.plainT 5 ⟨#[112]⟩) w hin rfl rfl rfl (show (1 : Nat) ≤ 65535 by decide) (show (1 : Nat) ≤ 65535 by decide))
  have hI := Lib.hid (fun g w hin hs => isE_any (fun _ _ => (false, false)) u (E.wrapT g) (E.plainT 5 ⟨#[112]⟩) w hin (E.plainT_in 5 ⟨#[112]⟩ w (by decide) (by decide)) rfl rfl (show (2 : Nat) ≤ 4096 by decide) hs (fun h => by cases h))
  have hV := Lib.hid (fun g w hin => validE0_any (E.wrapT g) w hin)
  have Hs := Lib.hid hs
  clear hs
  go_enter Tryz.func12, Tryz.ntmps12
  go_wp2_with fail
  refine (h38.out w).mono ?_
  rintro en w1 ⟨rfl, hb⟩
  have hW : ∀ W, W = ((w1.alloc (.cells #[.int .i64 1, .int .i64 0, .int .i64 5, .string ⟨#[112]⟩, .int .i64 0, .int .i64 0, .int .u64 0, .string ⟨#[]⟩, .slice none 0 0, .slice none 0 0, .slice none 0 0] 29)).alloc (.cells #[.int .i64 3, .int .i64 1, .int .i64 0, .string ⟨#[119]⟩, .int .i64 0, .int .i64 0, .int .u64 0, .string ⟨#[]⟩, .slice none 0 0, .slice none 0 0, .slice (some ⟨w1.heap.size, 0, none⟩) 1 1] 29)) → (E.wrapT w1.heap.size).In W ∧ Blk W (w1.heap.size + 1) 29 (E.wrapT w1.heap.size).cs.toArray ∧ Below w.heap.size w W := fun W h => by
    subst h
    exact ⟨E.wrapT_in _ _ ((Blk.new _ _ _).alloc _), Blk.new' (by simp) _ _, (hb.alloc hb.size _).alloc (by have := hb.size; simp; omega) _⟩
  have HW := Lib.hid hW
  clear hW hb
  go_upto_region 2 with fail
  obtain ⟨b1, b2, b3⟩ := HW.out _ rfl
  clear HW
  generalize hg : w1.heap.size = g at *
  clear hg
  generalize (w1.alloc _).alloc _ = W at *
  have HB := Lib.hid (And.intro b1 (And.intro b2 b3))
  clear b1 b2 b3
  have uE := Tryz.underlying29
  have sE : (Tryz.prog.info? 29).map (·.size) = some 11 := by kernel_rfl
  have Hb := HB.out.2.1
  unfold Blk at Hb
  go_wp2_with (refine wpList_load_row rfl 29 _ rfl (g + 1) rfl _ _ _ _ Hb uE rfl sE ?_)
  refine (hT.out g W HB.out.1).mono ?_
  rintro en w2 ⟨rfl, hb⟩
  have b1 := HB.out.1.below hb
  have b2 := HB.out.2.1.to hb
  have b3 := HB.out.2.2.trans (hb.mono HB.out.2.2.size)
  have HB2 := Lib.hid (And.intro b1 (And.intro b2 b3))
  clear b1 b2 b3 hb HB Hb
  have hs2 := Lib.hid (Hs.out.below HB2.out.2.2)
  go_upto_region 3 with fail
  have B2 := Lib.hid HB2.out.2.1
  refine wp_region_each (by kernel_rfl) (by kernel_rfl) (fun done a w' => ∃ x4 x5 x14 x15 x16 x17 x18 x19 r0 r2 r3 r6 r7 r8 r9 r10 r11 r12 r13, a = ⟨#[r0, .pointer (some ⟨g + 1, 0, none⟩), r2, r3, x4, x5, r6, r7, r8, r9, r10, r11, r12, r13, x14, x15, x16, x17, x18, x19, undef, undef, undef, undef, undef, undef, undef, undef, undef, undef, undef, undef, undef, undef, undef, undef, undef], []⟩ ∧
      (r2 = .string (⟨#[119]⟩ ++ ⟨#[58, 32]⟩ ++ ⟨#[112]⟩) ∧ r3 = .int .i64 0) ∧ Below w2.heap.size w2 w' ∧ (done 0 = true → x15 = (E.wrapT g).v) ∧ (done 1 = true → x16 = (E.plainT 5 ⟨#[112]⟩).v) ∧ (done 2 = true → x17 = .tuple #[.bool true, .int .i64 0]) ∧ (done 3 = true → x14 = .tuple #[.bool true, .int .i64 0]) ∧ (done 4 = true → x18 = .bool true) ∧ (done 5 = true → x19 = .int .i64 0) ∧ (done 6 = true → x4 = .bool true) ∧ (done 7 = true → x5 = .int .i64 0)) ?_ ?_ ?_
  · refine ⟨_, _, _, _, _, _, _, _, _, _, _, _, _, _, _, _, _, _, _, rfl, ⟨rfl, rfl⟩, (Below.refl _ _).drew, ?_⟩
    simp
  · refine ⟨?_, ?_, ?_, ?_, ?_, ?_, ?_, ?_, trivial⟩
    · rintro done a wx hd he ⟨x4, x5, x14, x15, x16, x17, x18, x19, r0, r2, r3, r6, r7, r8, r9, r10, r11, r12, r13, rfl, hr, i0, i1, i2, i3, i4, i5, i6, i7, i8⟩ K hK
      refine step_wp rfl (wp_load_row 29 _ rfl (g + 1) rfl _ _ _ _ (B2.out.to i0) uE rfl sE ?_)
      exact hK _ _ ⟨x4, x5, x14, _, x16, x17, x18, x19, r0, _, _, r6, r7, r8, r9, r10, r11, r12, r13, rfl, (by first | exact hr | exact ⟨rfl, rfl⟩), i0, fun _ => rfl, i2, i3, i4, i5, i6, i7, i8⟩
    · rintro done a wx hd he ⟨x4, x5, x14, x15, x16, x17, x18, x19, r0, r2, r3, r6, r7, r8, r9, r10, r11, r12, r13, rfl, hr, i0, i1, i2, i3, i4, i5, i6, i7, i8⟩ K hK
      refine step_wp rfl (wp_call (f := 38) (args := #[.int .i64 5]) (by kernel_rfl) (plainL_any 5 wx) ?_)
      rintro en w1 ⟨rfl, hb⟩
      exact ⟨_, rfl, hK _ _ ⟨x4, x5, x14, x15, _, x17, x18, x19, r0, _, _, r6, r7, r8, r9, r10, r11, r12, r13, rfl, (by first | exact hr | exact ⟨rfl, rfl⟩), i0.trans (hb.mono i0.size), i1, fun _ => rfl, i3, i4, i5, i6, i7, i8⟩⟩
    · rintro done a wx hd he ⟨x4, x5, x14, x15, x16, x17, x18, x19, r0, r2, r3, r6, r7, r8, r9, r10, r11, r12, r13, rfl, hr, i0, i1, i2, i3, i4, i5, i6, i7, i8⟩ K hK
      simp [Region.binds] at he
      obtain rfl := i1 he.1
      obtain rfl := i2 he.2
      refine step_wp rfl (wp_call (f := 17) (args := #[(E.wrapT g).v, (E.plainT 5 ⟨#[112]⟩).v]) (by kernel_rfl) (hI.out g wx (HB2.out.1.below i0) (hs2.out.below i0)) ?_)
      rintro en w1 ⟨rfl, hb⟩
      exact ⟨_, rfl, hK _ _ ⟨x4, x5, x14, _, _, _, x18, x19, r0, _, _, r6, r7, r8, r9, r10, r11, r12, r13, rfl, (by first | exact hr | exact ⟨rfl, rfl⟩), i0.trans (hb.mono i0.size), fun _ => rfl, fun _ => rfl, fun _ => rfl, i4, i5, i6, i7, i8⟩⟩
    · rintro done a wx hd he ⟨x4, x5, x14, x15, x16, x17, x18, x19, r0, r2, r3, r6, r7, r8, r9, r10, r11, r12, r13, rfl, hr, i0, i1, i2, i3, i4, i5, i6, i7, i8⟩ K hK
      simp [Region.binds] at he
      obtain rfl := i3 he
      refine step_wp rfl (wp_value (.tuple #[.bool true, .int .i64 0]) (by kernel_rfl) ?_)
      exact hK _ _ ⟨x4, x5, _, x15, x16, _, x18, x19, r0, _, _, r6, r7, r8, r9, r10, r11, r12, r13, rfl, (by first | exact hr | exact ⟨rfl, rfl⟩), i0, i1, i2, fun _ => rfl, fun _ => rfl, i5, i6, i7, i8⟩
    · rintro done a wx hd he ⟨x4, x5, x14, x15, x16, x17, x18, x19, r0, r2, r3, r6, r7, r8, r9, r10, r11, r12, r13, rfl, hr, i0, i1, i2, i3, i4, i5, i6, i7, i8⟩ K hK
      simp [Region.binds] at he
      obtain rfl := i4 he
      refine step_wp rfl (wp_value (.bool true) (by kernel_rfl) ?_)
      exact hK _ _ ⟨x4, x5, _, x15, x16, x17, _, x19, r0, _, _, r6, r7, r8, r9, r10, r11, r12, r13, rfl, (by first | exact hr | exact ⟨rfl, rfl⟩), i0, i1, i2, i3, fun _ => rfl, fun _ => rfl, i6, i7, i8⟩
    · rintro done a wx hd he ⟨x4, x5, x14, x15, x16, x17, x18, x19, r0, r2, r3, r6, r7, r8, r9, r10, r11, r12, r13, rfl, hr, i0, i1, i2, i3, i4, i5, i6, i7, i8⟩ K hK
      simp [Region.binds] at he
      obtain rfl := i4 he
      refine step_wp rfl (wp_value (.int .i64 0) (by kernel_rfl) ?_)
      exact hK _ _ ⟨x4, x5, _, x15, x16, x17, x18, _, r0, _, _, r6, r7, r8, r9, r10, r11, r12, r13, rfl, (by first | exact hr | exact ⟨rfl, rfl⟩), i0, i1, i2, i3, fun _ => rfl, i5, fun _ => rfl, i7, i8⟩
    · rintro done a wx hd he ⟨x4, x5, x14, x15, x16, x17, x18, x19, r0, r2, r3, r6, r7, r8, r9, r10, r11, r12, r13, rfl, hr, i0, i1, i2, i3, i4, i5, i6, i7, i8⟩ K hK
      simp [Region.binds] at he
      obtain rfl := i5 he.1
      refine step_wp rfl (wp_value (.bool true) (by kernel_rfl) ?_)
      exact hK _ _ ⟨_, x5, x14, x15, x16, x17, _, x19, r0, _, _, r6, r7, r8, r9, r10, r11, r12, r13, rfl, (by first | exact hr | exact ⟨rfl, rfl⟩), i0, i1, i2, i3, i4, fun _ => rfl, i6, fun _ => rfl, i8⟩
    · rintro done a wx hd he ⟨x4, x5, x14, x15, x16, x17, x18, x19, r0, r2, r3, r6, r7, r8, r9, r10, r11, r12, r13, rfl, hr, i0, i1, i2, i3, i4, i5, i6, i7, i8⟩ K hK
      simp [Region.binds] at he
      obtain rfl := i6 he.1
      refine step_wp rfl (wp_value (.int .i64 0) (by kernel_rfl) ?_)
      exact hK _ _ ⟨x4, _, x14, x15, x16, x17, x18, _, r0, _, _, r6, r7, r8, r9, r10, r11, r12, r13, rfl, (by first | exact hr | exact ⟨rfl, rfl⟩), i0, i1, i2, i3, i4, i5, fun _ => rfl, i7, fun _ => rfl⟩
  · rintro done a wx hd ⟨x4, x5, x14, x15, x16, x17, x18, x19, r0, r2, r3, r6, r7, r8, r9, r10, r11, r12, r13, rfl, ⟨rfl, rfl⟩, i0, i1, i2, i3, i4, i5, i6, i7, i8⟩
    have dd : ∀ j, j < 8 → done j = true := fun j h => hd j (by simpa using h)
    obtain rfl := i7 (dd 6 (by omega))
    obtain rfl := i8 (dd 7 (by omega))
    have Hb := B2.out.to i0
    have hv := Lib.hid (hV.out g wx (HB2.out.1.below i0))
    have hfin := Lib.hid (HB2.out.2.2.trans (i0.mono HB2.out.2.2.size))
    clear i0 i1 i2 i3 i4 i5 i6 i7 i8 dd hd
    unfold Blk at Hb
    have hstr : (((⟨#[119]⟩ ++ ⟨#[58, 32]⟩ ++ ⟨#[112]⟩ : ByteArray)).toList == [119, 58, 32, 112]) = true := by decide +kernel
    go_wp2_with (refine wpList_load_guarded (by kernel_rfl) 29 _ rfl (g + 1) rfl _ _ _ _ Hb uE rfl sE ?_)
    refine hv.out.mono ?_
    rintro en w3 ⟨rfl, hb⟩
    have hfin := Lib.hid (hfin.out.trans (hb.mono hfin.out.size))
    have hvv := Lib.hid (E.wrapT_valid g)
    clear hb hv Hb
    go_wp2_with fail
    go_ret
    exact ⟨congrArg (fun b => Ending.returned (.bool b)) hvv.out, hfin.out⟩
end Go.Proofs.YtbhmeapnmpgggaaGreatDoor
