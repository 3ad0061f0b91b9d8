/- conduitref35.Join: the walk; what both Joins give. Conditions: the errors lie in the world; they are not great and not many. -/
import Derived.Test.YtbhmeapnmpgggaaGreatDoorCopyE
namespace Go.Proofs.YtbhmeapnmpgggaaGreatDoor
open Go.RowKit

/-- the errors that are some -/
def E.some_ (l : List E) : List E := l.filter fun x => x.k != 0
/-- what Join gives -/
def E.joined (l : List E) (id : Int) : E := if E.some_ l = [] then E.zero else .mk 4 id 0 ⟨#[]⟩ D.zero none 0 [] none 0 (E.some_ l)
theorem E.some_take {l : List E} {j : Nat} {x : E} (h : l[j]? = some x) : E.some_ (l.take (j + 1)) = if x.k = 0 then E.some_ (l.take j) else E.some_ (l.take j) ++ [x] := by
  obtain ⟨hj, rfl⟩ := List.getElem?_eq_some_iff.1 h
  unfold E.some_
  rw [List.take_succ_eq_append_getElem hj, List.filter_append]
  by_cases hk : l[j].k = 0
  · rw [if_pos hk]; simp [hk]
  · rw [if_neg hk]; simp [hk]
/-- what holds at the head of a round -/
structure E.Cf (W3 : World) (g : Nat) (pre : Array Value) (m : List E) (s : Value) (es : List E) (wr : World) : Prop where
  kept : Kept [g] W3 wr
  row : E.Row W3.heap.size wr s es
  bare : E.bareL es = E.bareL m
  b0 : Blk wr g 29 (pre.push s)
theorem E.Cf.len {W3 : World} {g : Nat} {pre : Array Value} {m : List E} {s : Value} {es : List E} {wr : World} (h : E.Cf W3 g pre m s es wr) : es.length = m.length := by
  rw [← E.bareL_len es, h.bare, E.bareL_len]
theorem E.some_len (l : List E) : (E.some_ l).length ≤ l.length := List.length_filter_le _ _
theorem E.zero_new {l : List E} {id : Int} {w w' : World} (h : E.some_ l = []) (hb : Below w.heap.size w w') : E.New (E.joined l id) w (.returned (.agg #[.int .i64 0, .int .i64 0, .int .i64 0, .string ⟨#[]⟩, .int .i64 0, .int .i64 0, .int .u64 0, .string ⟨#[]⟩, .slice none 0 0, .slice none 0 0, .slice none 0 0])) w' := by
  unfold E.joined
  rw [if_pos h]
  exact ⟨E.zero, rfl, E.zero_in w', rfl, ⟨trivial, (fun h => absurd rfl h), trivial⟩, hb⟩
theorem E.Cf.new {w : World} {l : List E} {id : Int} (hid : -9223372036854775808 ≤ id ∧ id ≤ 9223372036854775807) {W3 wr w' : World} {g : Nat} {pre : Array Value} {s : Value} {es : List E} (hC : E.Cf W3 g pre (E.some_ l) s es wr) (hne : E.some_ l ≠ []) (h3 : w.heap.size ≤ W3.heap.size)
    (hk : ∀ k, W3.heap.size ≤ k → k < wr.heap.size → w'.heap[k]? = wr.heap[k]?) (hb : Below w.heap.size w w') :
    ∃ sA sc, s = .slice sA es.length sc ∧ E.New (E.joined l id) w (.returned (.agg #[.int .i64 4, .int .i64 id, .int .i64 0, .string ⟨#[]⟩, .int .i64 0, .int .i64 0, .int .u64 0, .string ⟨#[]⟩, .slice none 0 0, .slice none 0 0, .slice sA es.length sc])) w' := by
  have hrow : E.Row W3.heap.size w' s es := hC.row.turn fun k h1 h2 => hk k h1 h2
  obtain ⟨sA, sc, e1, q1, q2, q3, q4⟩ := hrow.list
  refine ⟨sA, sc, e1, E.mk 4 id 0 ⟨#[]⟩ D.zero none 0 [] sA sc es, rfl, ⟨⟨by simp, hid, by simp, by simp [ByteArray.size], by simp, by simp, by simp, q2, q3, by simp⟩, D.zero_in _, (fun q x hq => by simp at hq), q1⟩, ?_, ?_, hb⟩
  · unfold E.joined
    rw [if_neg hne, E.bare, E.bare, hC.bare]
  · exact ⟨trivial, (fun h => absurd rfl h), E.AllL.mono (fun g hg => by omega) q4⟩
theorem E.InL.at0 {w : World} {A : Option Addr} {l : List E} (h : E.InL w A 0 l) {q : Nat} {x : E} (hq : l[q]? = some x) : (∃ ad, A = some ad ∧ At w (ad.add (q * 11)) x.cs) ∧ x.In w := by
  have := h.at_ hq
  rwa [Nat.zero_add] at this

set_option maxHeartbeats 2000000 in
set_option maxRecDepth 100000 in
theorem join1_any (l : List E) (A : Option Addr) (c : Nat) (id : Int) (w : World) (hl : E.InL w A 0 l) (hlen : l.length ≤ 1000000) (hc : l.length ≤ c ∧ c ≤ 9223372036854775807) (hs : ∀ (q : Nat) (x : E), l[q]? = some x → x.Small) (hid : -9223372036854775808 ≤ id ∧ id ≤ 9223372036854775807) :
    Calls Tryz.prog 24 #[.slice A l.length c, .int .i64 id] w (E.New (E.joined l id) w) := by
  have HE : Hid (∀ q x, l[q]? = some x → (∃ ad, A = some ad ∧ At w (ad.add (q * 11)) x.cs) ∧ x.Small ∧ x.In w) := Lib.hid fun q x h => ⟨(hl.at0 h).1, hs q x h, (hl.at0 h).2⟩
  have HPz : Hid (∀ w', E.some_ l = [] → Below w.heap.size w w' → E.New (E.joined l id) w (.returned (.agg #[.int .i64 0, .int .i64 0, .int .i64 0, .string ⟨#[]⟩, .int .i64 0, .int .i64 0, .int .u64 0, .string ⟨#[]⟩, .slice none 0 0, .slice none 0 0, .slice none 0 0])) w') := Lib.hid fun w' h1 h2 => E.zero_new h1 h2
  have HP : Hid (∀ (W3 wr w' : World) (pre : Array Value) (s : Value) (es : List E), E.Cf W3 (w.heap.size + 1) pre (E.some_ l) s es wr → E.some_ l ≠ [] → w.heap.size ≤ W3.heap.size → (∀ k, W3.heap.size ≤ k → k < wr.heap.size → w'.heap[k]? = wr.heap[k]?) → Below w.heap.size w w' →
      ∃ sA sc, s = .slice sA es.length sc ∧ E.New (E.joined l id) w (.returned (.agg #[.int .i64 4, .int .i64 id, .int .i64 0, .string ⟨#[]⟩, .int .i64 0, .int .i64 0, .int .u64 0, .string ⟨#[]⟩, .slice none 0 0, .slice none 0 0, .slice sA es.length sc])) w') := Lib.hid fun W3 wr w' pre s es h1 h2 h3 h4 h5 => E.Cf.new hid h1 h2 h3 h4 h5
  have hW : ∀ W, W = ((w.alloc (.cells #[.int .i64 0, .int .i64 0, .int .i64 0, .string ⟨#[]⟩, .int .i64 0, .int .i64 0, .int .u64 0, .string ⟨#[]⟩, .slice none 0 0, .slice none 0 0, .slice none 0 0] 29)).alloc (.cells #[.int .i64 4, .int .i64 id, .int .i64 0, .string ⟨#[]⟩, .int .i64 0, .int .i64 0, .int .u64 0, .string ⟨#[]⟩, .slice none 0 0, .slice none 0 0, .slice none 0 0] 29)) → Blk W w.heap.size 29 #[.int .i64 0, .int .i64 0, .int .i64 0, .string ⟨#[]⟩, .int .i64 0, .int .i64 0, .int .u64 0, .string ⟨#[]⟩, .slice none 0 0, .slice none 0 0, .slice none 0 0] ∧ Blk W (w.heap.size + 1) 29 #[.int .i64 4, .int .i64 id, .int .i64 0, .string ⟨#[]⟩, .int .i64 0, .int .i64 0, .int .u64 0, .string ⟨#[]⟩, .slice none 0 0, .slice none 0 0, .slice none 0 0] ∧ Below w.heap.size w W ∧ W.heap.size = w.heap.size + 2 := fun W h => by
    subst h
    exact ⟨(Blk.new _ _ _).alloc _, Blk.new' (by simp) _ _, two_alloc _ _ _, by simp⟩
  have HW := Lib.hid hW
  obtain ⟨hc1, hc2⟩ := hc
  clear hl hs hW
  generalize E.New (E.joined l id) w = R at *
  go_enter Tryz.func24, Tryz.ntmps24
  go_wp2_with fail
  obtain ⟨b1, b2, b3, b4⟩ := HW.out _ rfl
  clear HW
  generalize (w.alloc _).alloc _ = W3 at *
  have HB := Lib.hid (And.intro b1 (And.intro b2 (And.intro b3 b4)))
  clear b1 b2 b3 b4
  go_loopg [11] l.length (fun gk i wr => ∃ (j : Nat) (s : Value) (es : List E), i = .int .i64 j ∧ j + gk = l.length ∧ Hid (E.Cf W3 (w.heap.size + 1) #[.int .i64 4, .int .i64 id, .int .i64 0, .string ⟨#[]⟩, .int .i64 0, .int .i64 0, .int .u64 0, .string ⟨#[]⟩, .slice none 0 0, .slice none 0 0] (E.some_ (l.take j)) s es wr))
  case atStart => exact ⟨0, .slice none 0 0, [], rfl, by omega, Kept.refl _ _, E.Row.nil _ _, rfl, HB.out.2.1⟩
  case round =>
    obtain ⟨j, s, es, rfl, hj, hC⟩ := hrel
    have hz3 := HB.out.2.2.2
    by_cases hlt : j < l.length
    · obtain ⟨x, ex⟩ : ∃ x, l[j]? = some x := ⟨_, List.getElem?_eq_getElem hlt⟩
      obtain ⟨⟨ad, rfl, h1⟩, hx⟩ := HE.out j x ex
      have hbw : Below w.heap.size w wr := HB.out.2.2.1.trans (hC.out.kept.below (by omega) (by simp))
      have HX := Lib.hid hx
      have Hst := Lib.hid (E.some_take ex)
      have H1 := Lib.hid h1
      have Hbw := Lib.hid hbw
      have p0 := (h1.below hbw).eleven.1
      clear hx ex h1 hbw
      by_cases hk : x.k = 0
      · have hkb : (x.k != 0) = false := by simpa using hk
        have hC' : Hid (E.Cf W3 (w.heap.size + 1) #[.int .i64 4, .int .i64 id, .int .i64 0, .string ⟨#[]⟩, .int .i64 0, .int .i64 0, .int .u64 0, .string ⟨#[]⟩, .slice none 0 0, .slice none 0 0] (E.some_ (l.take (j + 1))) s es wr) := by
          have := Hst.out
          rw [if_pos hk] at this
          rw [this]
          exact hC
        clear hk hC
        go_wp2_with fail
        go_roundg (gk - 1)
        case measure => omega
        case rel => exact ⟨j + 1, s, es, by go_num, by omega, hC'⟩
      · have hkb : (x.k != 0) = true := by simpa using hk
        have Hst2 : Hid (E.some_ (l.take (j + 1)) = E.some_ (l.take j) ++ [x]) := by
          have := Hst.out
          rw [if_neg hk] at this
          exact this
        clear hk Hst
        go_wp2_with fail
        clear p0
        have hCr := hC.out
        have HR := Lib.hid hCr.row
        have hBz : W3.heap.size ≤ wr.heap.size := hCr.kept.size
        have hlen2 : es.length ≤ 1000000 := by have := hCr.len; have := E.some_len (l.take j); have := List.length_take_le j l; omega
        have HK := Lib.hid hCr.b0
        have Hkp := Lib.hid hCr.kept
        have hg3 : w.heap.size + 1 < W3.heap.size := by omega
        have Hs := Lib.hid (fun W (h : Below wr.heap.size wr W) => (HK.out.below h HK.out.lt).cell 10)
        have Hx := Lib.hid (fun W (h : Below wr.heap.size wr W) => H1.out.below (Hbw.out.trans (h.mono Hbw.out.size)))
        have Hc := Lib.hid (fun W (h : Below wr.heap.size wr W) => copyE_any x.size x W (Nat.le_refl _) HX.out.1 (HX.out.2.below (Hbw.out.trans (h.mono Hbw.out.size))))
        have Hbare := Lib.hid hCr.bare
        clear hCr hC
        have uE := Tryz.underlying29
        have uS := Tryz.underlying27
        simp only [E.v, E.cs] at Hc Hx
        refine wp_region_eachC (by kernel_rfl) (by kernel_rfl) (fun done a w' => ∃ x20 x21 x22 x23 x24 x25 x26 x27 x28 x29, a = ⟨#[Value.slice (some ad) l.length c, Value.int IntKind.i64 id, undef, undef, Value.pointer (some ⟨w.heap.size, 0, none⟩), Value.pointer (some ⟨w.heap.size + 1, 0, none⟩), Value.int IntKind.i64 ↑j, Value.int IntKind.i64 id, Value.agg #[.int .i64 4, .int .i64 id, .int .i64 0, .string ⟨#[]⟩, .int .i64 0, .int .i64 0, .int .u64 0, .string ⟨#[]⟩, .slice none 0 0, .slice none 0 0, .slice none 0 0], Value.slice (some ad) l.length c, Value.int IntKind.i64 ↑l.length, Value.int IntKind.i64 ↑j, Value.bool true, Value.int IntKind.i64 ↑j, Value.slice (some ad) l.length c, Value.int IntKind.i64 ↑j, Value.pointer (some (ad.add (j * 11))), Value.pointer (some (ad.add (j * 11))), Value.int IntKind.i64 x.k, Value.bool true, x20, x21, x22, x23, x24, x25, x26, x27, x28, x29, u30, undef, undef, undef, undef, undef, undef], []⟩ ∧ AppJ wr ⟨w.heap.size + 1, 10, none⟩ (E.Got wr x) (E.Boxed wr x) (E.Put (W3.heap.size) wr s es x) (done 6) (done 7) (done 8) (done 10) x26 x27 x28 w' ∧ (done 0 = true → x20 = Value.pointer (some ⟨w.heap.size + 1, 10, none⟩)) ∧ (done 1 = true → x21 = s) ∧ (done 2 = true → x22 = Value.slice (some ad) l.length c) ∧ (done 3 = true → x23 = Value.int IntKind.i64 ↑j) ∧ (done 4 = true → x24 = Value.pointer (some (ad.add (j * 11)))) ∧ (done 5 = true → x25 = Value.agg #[Value.int IntKind.i64 x.k, Value.int IntKind.i64 x.id, Value.int IntKind.i64 x.code, Value.string x.t, Value.int IntKind.i64 x.body.k, Value.int IntKind.i64 x.body.i, Value.int IntKind.u64 x.body.b, Value.string x.body.t, Value.slice x.body.A x.body.l.length x.body.c, Value.slice x.cA x.codes.length x.cc, Value.slice x.A x.l.length x.c]) ∧ (done 9 = true → x29 = Value.pointer (some ⟨w.heap.size + 1, 10, none⟩))) ?_ ?_ ?_
        · refine ⟨_, _, _, _, _, _, _, _, _, _, rfl, AppJ.start _ _ _ _ _ _ _ _, ?_⟩
          simp
        · refine ⟨?_, ?_, ?_, ?_, ?_, ?_, ?_, ?_, ?_, ?_, ?_, trivial⟩
          · rintro done a wx hd he ⟨x20, x21, x22, x23, x24, x25, x26, x27, x28, x29, rfl, hB, i0, i1, i2, i3, i4, i5, i9⟩ hcl K hK
            refine step_wp rfl (wp_value (Value.pointer (some ⟨w.heap.size + 1, 10, none⟩)) (by kernel_rfl) ?_)
            exact hK _ _ ⟨_, x21, x22, x23, x24, x25, x26, x27, x28, x29, rfl, hB, fun _ => rfl, i1, i2, i3, i4, i5, i9⟩
          · rintro done a wx hd he ⟨x20, x21, x22, x23, x24, x25, x26, x27, x28, x29, rfl, hB, i0, i1, i2, i3, i4, i5, i9⟩ hcl K hK
            simp [Region.binds] at he
            obtain rfl := i0 (by simp [he])
            have hda := hcl.not (a := 8) (by kernel_rfl) (by omega) hd
            refine step_wp rfl (wp_load_cell 27 _ rfl ⟨w.heap.size + 1, 10, none⟩ rfl _ _ (Hs.out wx (hB.first hda).2.1) uS rfl ?_)
            exact hK _ _ ⟨_, _, x22, x23, x24, x25, x26, x27, x28, x29, rfl, hB, fun _ => rfl, fun _ => rfl, i2, i3, i4, i5, i9⟩
          · rintro done a wx hd he ⟨x20, x21, x22, x23, x24, x25, x26, x27, x28, x29, rfl, hB, i0, i1, i2, i3, i4, i5, i9⟩ hcl K hK
            refine step_wp rfl (wp_value (Value.slice (some ad) l.length c) (by kernel_rfl) ?_)
            exact hK _ _ ⟨x20, x21, _, x23, x24, x25, x26, x27, x28, x29, rfl, hB, i0, i1, fun _ => rfl, i3, i4, i5, i9⟩
          · rintro done a wx hd he ⟨x20, x21, x22, x23, x24, x25, x26, x27, x28, x29, rfl, hB, i0, i1, i2, i3, i4, i5, i9⟩ hcl K hK
            refine step_wp rfl (wp_value (Value.int IntKind.i64 ↑j) (by kernel_rfl) ?_)
            exact hK _ _ ⟨x20, x21, x22, _, x24, x25, x26, x27, x28, x29, rfl, hB, i0, i1, i2, fun _ => rfl, i4, i5, i9⟩
          · rintro done a wx hd he ⟨x20, x21, x22, x23, x24, x25, x26, x27, x28, x29, rfl, hB, i0, i1, i2, i3, i4, i5, i9⟩ hcl K hK
            simp [Region.binds] at he
            obtain rfl := i2 (by simp [he])
            obtain rfl := i3 (by simp [he])
            refine step_wp rfl (wp_value (Value.pointer (some (ad.add (j * 11)))) (idx_any _ _ 11 elemE underE sizeE (.tmp 22) (.tmp 23) ad l.length c j hlt _ _ rfl rfl rfl wx) ?_)
            exact hK _ _ ⟨x20, x21, _, _, _, x25, x26, x27, x28, x29, rfl, hB, i0, i1, fun _ => rfl, fun _ => rfl, fun _ => rfl, i5, i9⟩
          · rintro done a wx hd he ⟨x20, x21, x22, x23, x24, x25, x26, x27, x28, x29, rfl, hB, i0, i1, i2, i3, i4, i5, i9⟩ hcl K hK
            simp [Region.binds] at he
            obtain rfl := i4 (by simp [he])
            have hda := hcl.not (a := 8) (by kernel_rfl) (by omega) hd
            refine step_wp rfl (wp_load_at 29 _ rfl (ad.add (j * 11)) rfl _ _ (Hx.out wx (hB.first hda).2.1) uE rfl sizeE ?_)
            exact hK _ _ ⟨x20, x21, x22, x23, _, _, x26, x27, x28, x29, rfl, hB, i0, i1, i2, i3, fun _ => rfl, fun _ => rfl, i9⟩
          · rintro done a wx hd he ⟨x20, x21, x22, x23, x24, x25, x26, x27, x28, x29, rfl, hB, i0, i1, i2, i3, i4, i5, i9⟩ hcl K hK
            simp [Region.binds] at he
            obtain rfl := i5 (by simp [he])
            have hda := hcl.not (a := 8) (by kernel_rfl) (by omega) hd
            refine step_wp rfl (wp_call (f := 29) (args := #[Value.agg #[Value.int IntKind.i64 x.k, Value.int IntKind.i64 x.id, Value.int IntKind.i64 x.code, Value.string x.t, Value.int IntKind.i64 x.body.k, Value.int IntKind.i64 x.body.i, Value.int IntKind.u64 x.body.b, Value.string x.body.t, Value.slice x.body.A x.body.l.length x.body.c, Value.slice x.cA x.codes.length x.cc, Value.slice x.A x.l.length x.c]]) (by kernel_rfl) (Hc.out wx (hB.first hda).2.1) ?_)
            intro en w1 hn
            obtain ⟨v, hv, hB⟩ := E.step_call hB hda hn
            exact ⟨v, hv, hK _ _ ⟨x20, x21, x22, x23, x24, _, _, x27, x28, x29, rfl, hB, i0, i1, i2, i3, i4, fun _ => rfl, i9⟩⟩
          · rintro done a wx hd he ⟨x20, x21, x22, x23, x24, x25, x26, x27, x28, x29, rfl, hB, i0, i1, i2, i3, i4, i5, i9⟩ hcl K hK
            simp [Region.binds] at he
            have hda := hcl.not (a := 8) (by kernel_rfl) (by omega) hd
            obtain ⟨u, w1, hr, hB⟩ := E.step_box hB hda (by simp [he])
            refine step_wp rfl (wp_box _ _ _ u rfl rfl hr ?_)
            exact hK _ _ ⟨x20, x21, x22, x23, x24, x25, x26, _, x28, x29, rfl, hB, i0, i1, i2, i3, i4, i5, i9⟩
          · rintro done a wx hd he ⟨x20, x21, x22, x23, x24, x25, x26, x27, x28, x29, rfl, hB, i0, i1, i2, i3, i4, i5, i9⟩ hcl K hK
            simp [Region.binds] at he
            obtain rfl := i1 (by simp [he])
            refine step_wp rfl (E.step_append hB hd (by simp [he]) hBz HR.out hlen2 (.tmp 21) (.tmp 27) rfl rfl rfl ?_)
            intro v' w1 hB
            exact hK _ _ ⟨x20, _, x22, x23, x24, x25, x26, x27, _, x29, rfl, hB, i0, fun _ => rfl, i2, i3, i4, i5, i9⟩
          · rintro done a wx hd he ⟨x20, x21, x22, x23, x24, x25, x26, x27, x28, x29, rfl, hB, i0, i1, i2, i3, i4, i5, i9⟩ hcl K hK
            refine step_wp rfl (wp_value (Value.pointer (some ⟨w.heap.size + 1, 10, none⟩)) (by kernel_rfl) ?_)
            exact hK _ _ ⟨x20, x21, x22, x23, x24, x25, x26, x27, x28, _, rfl, hB, i0, i1, i2, i3, i4, i5, fun _ => rfl⟩
          · rintro done a wx hd he ⟨x20, x21, x22, x23, x24, x25, x26, x27, x28, x29, rfl, hB, i0, i1, i2, i3, i4, i5, i9⟩ hcl K hK
            simp [Region.binds] at he
            obtain rfl := i9 (by simp [he])
            refine step_wp rfl (E.step_store hB (by simp [he]) hd HR.out hg3 HK.out (old := s) rfl (.tmp 29) (.tmp 28) rfl rfl rfl ?_)
            intro w1 hB
            exact hK _ _ ⟨x20, x21, x22, x23, x24, x25, x26, x27, x28, _, rfl, hB, i0, i1, i2, i3, i4, i5, fun _ => rfl⟩
        · rintro done a wx hd ⟨x20, x21, x22, x23, x24, x25, x26, x27, x28, x29, rfl, hB, i0, i1, i2, i3, i4, i5, i9⟩
          have dd : ∀ j, j < 11 → done j = true := fun j h => hd j (by simpa using h)
          have hE := hB.third (dd 10 (by omega))
          obtain rfl := i0 (dd 0 (by omega))
          obtain rfl := i1 (dd 1 (by omega))
          obtain rfl := i2 (dd 2 (by omega))
          obtain rfl := i3 (dd 3 (by omega))
          obtain rfl := i4 (dd 4 (by omega))
          obtain rfl := i5 (dd 5 (by omega))
          obtain rfl := i9 (dd 9 (by omega))
          clear i0 i1 i2 i3 i4 i5 i9 dd hB
          have hN := E.step_end hE HR.out hg3 Hbw.out (Nat.le_add_right _ _) hBz HK.out
          obtain ⟨x', k1, k2, k3, k4, k5, k6, k7⟩ := hN
          have HN : Hid (E.Cf W3 (w.heap.size + 1) #[.int .i64 4, .int .i64 id, .int .i64 0, .string ⟨#[]⟩, .int .i64 0, .int .i64 0, .int .u64 0, .string ⟨#[]⟩, .slice none 0 0, .slice none 0 0] (E.some_ (l.take (j + 1))) x28 (es ++ [x']) wx) :=
            ⟨k7 _ _ Hkp.out (Nat.le_refl _) (by simp), k2, by rw [Hst2.out, E.bareL_append, E.bareL_append, Hbare.out]; show _ ++ [x'.bare] = _ ++ [x.bare]; rw [k1], by simpa using k3⟩
          clear hE k1 k2 k3 k4 k5 k6 k7 Hc Hx Hs HR HK Hbw Hbare hBz uE uS Hkp Hst2
          go_wp2_with fail
          go_roundg (gk - 1)
          case measure => omega
          case rel => exact ⟨j + 1, x28, es ++ [x'], by go_num, by omega, HN⟩
    · obtain rfl : j = l.length := by omega
      have hC2 := hC.out
      rw [List.take_length] at hC2
      have hall : Below w.heap.size w wr := HB.out.2.2.1.trans (hC2.kept.below (by omega) (by simp))
      have B1 := hC2.b0
      have B2 := HB.out.1.kept hC2.kept (by simp)
      have hel := hC2.len
      by_cases hne : E.some_ l = []
      · obtain ⟨sA, sc, rfl, _⟩ := hC2.row.list
        have he0 : es = [] := by rw [hne] at hel; exact List.eq_nil_of_length_eq_zero hel
        subst he0
        have HF := Lib.hid (fun w' h => HPz.out w' hne h)
        have Hbel := Lib.hid hall
        have c10 := B1.cell 10
        have d0 := B2.cell 0
        have d1 := B2.cell 1
        have d2 := B2.cell 2
        have d3 := B2.cell 3
        have d4 := B2.cell 4
        have d5 := B2.cell 5
        have d6 := B2.cell 6
        have d7 := B2.cell 7
        have d8 := B2.cell 8
        have d9 := B2.cell 9
        have d10 := B2.cell 10
        have e0 := B2.frozen 0
        have e1 := B2.frozen 1
        have e2 := B2.frozen 2
        have e3 := B2.frozen 3
        have e4 := B2.frozen 4
        have e5 := B2.frozen 5
        have e6 := B2.frozen 6
        have e7 := B2.frozen 7
        have e8 := B2.frozen 8
        have e9 := B2.frozen 9
        have e10 := B2.frozen 10
        simp at c10 d0 d1 d2 d3 d4 d5 d6 d7 d8 d9 d10
        clear hC hC2 hall hel hne HE HP HPz HB B1 B2 hz3
        go_wp2_with fail
        refine bodyPost_ret (v := .agg #[.int .i64 0, .int .i64 0, .int .i64 0, .string ⟨#[]⟩, .int .i64 0, .int .i64 0, .int .u64 0, .string ⟨#[]⟩, .slice none 0 0, .slice none 0 0, .slice none 0 0]) ?_ rfl (HF.out _ ?_)
        · simp [results, Tryz.results24, go_sem, d0, d1, d2, d3, d4, d5, d6, d7, d8, d9, d10]
        · iterate 11 refine Below.setCell ?_ (by simp) _
          exact Hbel.out
      · have HN := Lib.hid (fun w' h1 h2 => HP.out W3 wr w' _ s es hC2 hne (by omega) h1 h2)
        obtain ⟨sA, sc, rfl, _⟩ := HN.out wr (fun _ _ _ => rfl) hall
        have hel0 : (es.length : Int) ≠ 0 := by
          have : (E.some_ l).length ≠ 0 := fun h => hne (List.eq_nil_of_length_eq_zero h)
          omega
        have helb : ((es.length : Int) == 0) = false := by simpa using hel0
        have hel1 : (es.length : Int) ≤ 1000000 := by have := E.some_len l; omega
        have HF : Hid (∀ w', (∀ k, W3.heap.size ≤ k → k < wr.heap.size → w'.heap[k]? = wr.heap[k]?) → Below w.heap.size w w' → R (.returned (.agg #[.int .i64 4, .int .i64 id, .int .i64 0, .string ⟨#[]⟩, .int .i64 0, .int .i64 0, .int .u64 0, .string ⟨#[]⟩, .slice none 0 0, .slice none 0 0, .slice sA es.length sc])) w') := Lib.hid fun w' h1 h2 => by
          obtain ⟨sA', sc', e1, e2⟩ := HN.out w' h1 h2
          injection e1 with e1 _ e3
          subst e1 e3
          exact e2
        have Hbel := Lib.hid hall
        have c0 := B1.cell 0
        have c1 := B1.cell 1
        have c2 := B1.cell 2
        have c3 := B1.cell 3
        have c4 := B1.cell 4
        have c5 := B1.cell 5
        have c6 := B1.cell 6
        have c7 := B1.cell 7
        have c8 := B1.cell 8
        have c9 := B1.cell 9
        have c10 := B1.cell 10
        have d0 := B2.cell 0
        have d1 := B2.cell 1
        have d2 := B2.cell 2
        have d3 := B2.cell 3
        have d4 := B2.cell 4
        have d5 := B2.cell 5
        have d6 := B2.cell 6
        have d7 := B2.cell 7
        have d8 := B2.cell 8
        have d9 := B2.cell 9
        have d10 := B2.cell 10
        have e0 := B2.frozen 0
        have e1 := B2.frozen 1
        have e2 := B2.frozen 2
        have e3 := B2.frozen 3
        have e4 := B2.frozen 4
        have e5 := B2.frozen 5
        have e6 := B2.frozen 6
        have e7 := B2.frozen 7
        have e8 := B2.frozen 8
        have e9 := B2.frozen 9
        have e10 := B2.frozen 10
        simp at c0 c1 c2 c3 c4 c5 c6 c7 c8 c9 c10 d0 d1 d2 d3 d4 d5 d6 d7 d8 d9 d10
        clear hC hC2 hall hel hne HE HP HPz B1 B2 HN
        go_wp2_with fail
        refine bodyPost_ret (v := .agg #[.int .i64 4, .int .i64 id, .int .i64 0, .string ⟨#[]⟩, .int .i64 0, .int .i64 0, .int .u64 0, .string ⟨#[]⟩, .slice none 0 0, .slice none 0 0, .slice sA es.length sc]) ?_ rfl (HF.out _ ?_ ?_)
        · simp [results, Tryz.results24, go_sem, d0, d1, d2, d3, d4, d5, d6, d7, d8, d9, d10]
        · intro k hk _
          repeat rw [Below.heap_setCell _ _ _ _ (by show k ≠ w.heap.size; omega)]
        · iterate 11 refine Below.setCell ?_ (by simp) _
          exact Hbel.out
end Go.Proofs.YtbhmeapnmpgggaaGreatDoor
/- errs.Join: the walk. Conditions: the errors lie in the world and are right; they are not great and not many. -/
namespace Go.Proofs.YtbhmeapnmpgggaaGreatDoor
open Go.RowKit

theorem neqNil (w : World) : (binOp .neq 68 .nilIface .nilIface).run Tryz.prog w = .ok (.bool false) w := by kernel_rfl
theorem EV.neq {B : Nat} {w : World} {e : E} {v : Value} (hv : EV B w e v) (hk : E.okK e.k) : ∀ w', (binOp .neq 68 v .nilIface).run Tryz.prog w' = .ok (.bool (e.k != 0)) w' := by
  have hne : e.k ≠ 0 → (e.k != 0) = true := fun h => by simpa using h
  unfold EV at hv
  intro w'
  rcases hv with ⟨a, rfl⟩ | ⟨a, g, b, rfl, d⟩ | ⟨a, g, b, rfl, d⟩ | ⟨a, g, b, rfl, d⟩ | ⟨a, g, b, rfl, d⟩ | ⟨a, rfl⟩ | ⟨a, rfl⟩ | ⟨a, g, b, rfl, d⟩ | ⟨a, g, b, rfl, d⟩ | ⟨a, rfl⟩ | ⟨a, rfl⟩
  · rw [hne (by omega)]; kernel_rfl
  · rw [hne (by omega)]; kernel_rfl
  · rw [hne (by omega)]; kernel_rfl
  · rw [hne (by omega)]; kernel_rfl
  · rw [hne (by omega)]; kernel_rfl
  · rw [hne (by omega)]; kernel_rfl
  · rw [hne (by omega)]; kernel_rfl
  · rw [hne (by omega)]; kernel_rfl
  · rw [hne (by omega)]; kernel_rfl
  · rw [hne (by omega)]; kernel_rfl
  · have h0 : e.k = 0 := by
      rcases a with a | a
      · exact absurd hk a
      · exact a
    have h1 : (e.k != 0) = false := by simp [h0]
    rw [h1]
    exact neqNil w'
theorem EV.guardNil {B : Nat} {w : World} {e : E} {v : Value} (hv : EV B w e v) (o : Nat) : ∀ w', (eqGuard .neq 68 (.tmp o) (.const .nilIface) v .nilIface).run Tryz.prog w' = .ok () w' := by
  unfold EV at hv
  intro w'
  rcases hv with ⟨a, rfl⟩ | ⟨a, g, b, rfl, d⟩ | ⟨a, g, b, rfl, d⟩ | ⟨a, g, b, rfl, d⟩ | ⟨a, g, b, rfl, d⟩ | ⟨a, rfl⟩ | ⟨a, rfl⟩ | ⟨a, g, b, rfl, d⟩ | ⟨a, g, b, rfl, d⟩ | ⟨a, rfl⟩ | ⟨a, rfl⟩
  · kernel_rfl
  · kernel_rfl
  · kernel_rfl
  · kernel_rfl
  · kernel_rfl
  · kernel_rfl
  · kernel_rfl
  · kernel_rfl
  · kernel_rfl
  · kernel_rfl
  · kernel_rfl

set_option maxHeartbeats 2000000 in
set_option maxRecDepth 100000 in
theorem join0_any (l : List E) (A : Option Addr) (c : Nat) (id : Int) (w : World) (hl : E.InL w A 0 l) (hlen : l.length ≤ 1000000) (hc : l.length ≤ c ∧ c ≤ 9223372036854775807) (hs : ∀ (q : Nat) (x : E), l[q]? = some x → x.Small ∧ x.right = true) (hid : -9223372036854775808 ≤ id ∧ id ≤ 9223372036854775807) :
    Calls Tryz.prog 23 #[.slice A l.length c, .int .i64 id] w (E.New (E.joined l id) w) := by
  have HE : Hid (∀ q x, l[q]? = some x → (∃ ad, A = some ad ∧ At w (ad.add (q * 11)) x.cs) ∧ x.Small ∧ x.In w ∧ x.right = true) := Lib.hid fun q x h => ⟨(hl.at0 h).1, (hs q x h).1, (hl.at0 h).2, (hs q x h).2⟩
  have HPz : Hid (∀ w', E.some_ l = [] → Below w.heap.size w w' → E.New (E.joined l id) w (.returned (.agg #[.int .i64 0, .int .i64 0, .int .i64 0, .string ⟨#[]⟩, .int .i64 0, .int .i64 0, .int .u64 0, .string ⟨#[]⟩, .slice none 0 0, .slice none 0 0, .slice none 0 0])) w') := Lib.hid fun w' h1 h2 => E.zero_new h1 h2
  have HP : Hid (∀ (W3 wr w' : World) (pre : Array Value) (s : Value) (es : List E), E.Cf W3 (w.heap.size + 1) pre (E.some_ l) s es wr → E.some_ l ≠ [] → w.heap.size ≤ W3.heap.size → (∀ k, W3.heap.size ≤ k → k < wr.heap.size → w'.heap[k]? = wr.heap[k]?) → Below w.heap.size w w' →
      ∃ sA sc, s = .slice sA es.length sc ∧ E.New (E.joined l id) w (.returned (.agg #[.int .i64 4, .int .i64 id, .int .i64 0, .string ⟨#[]⟩, .int .i64 0, .int .i64 0, .int .u64 0, .string ⟨#[]⟩, .slice none 0 0, .slice none 0 0, .slice sA es.length sc])) w') := Lib.hid fun W3 wr w' pre s es h1 h2 h3 h4 h5 => E.Cf.new hid h1 h2 h3 h4 h5
  have hW : ∀ W, W = ((w.alloc (.cells #[.int .i64 0, .int .i64 0, .int .i64 0, .string ⟨#[]⟩, .int .i64 0, .int .i64 0, .int .u64 0, .string ⟨#[]⟩, .slice none 0 0, .slice none 0 0, .slice none 0 0] 29)).alloc (.cells #[.int .i64 4, .int .i64 id, .int .i64 0, .string ⟨#[]⟩, .int .i64 0, .int .i64 0, .int .u64 0, .string ⟨#[]⟩, .slice none 0 0, .slice none 0 0, .slice none 0 0] 29)) → Blk W w.heap.size 29 #[.int .i64 0, .int .i64 0, .int .i64 0, .string ⟨#[]⟩, .int .i64 0, .int .i64 0, .int .u64 0, .string ⟨#[]⟩, .slice none 0 0, .slice none 0 0, .slice none 0 0] ∧ Blk W (w.heap.size + 1) 29 #[.int .i64 4, .int .i64 id, .int .i64 0, .string ⟨#[]⟩, .int .i64 0, .int .i64 0, .int .u64 0, .string ⟨#[]⟩, .slice none 0 0, .slice none 0 0, .slice none 0 0] ∧ Below w.heap.size w W ∧ W.heap.size = w.heap.size + 2 := fun W h => by
    subst h
    exact ⟨(Blk.new _ _ _).alloc _, Blk.new' (by simp) _ _, two_alloc _ _ _, by simp⟩
  have HW := Lib.hid hW
  obtain ⟨hc1, hc2⟩ := hc
  clear hl hs hW
  generalize E.New (E.joined l id) w = R at *
  go_enter Tryz.func23, Tryz.ntmps23
  go_wp2_with fail
  obtain ⟨b1, b2, b3, b4⟩ := HW.out _ rfl
  clear HW
  generalize (w.alloc _).alloc _ = W3 at *
  have HB := Lib.hid (And.intro b1 (And.intro b2 (And.intro b3 b4)))
  clear b1 b2 b3 b4
  go_loopg [12] l.length (fun gk i wr => ∃ (j : Nat) (s : Value) (es : List E), i = .int .i64 j ∧ j + gk = l.length ∧ Hid (E.Cf W3 (w.heap.size + 1) #[.int .i64 4, .int .i64 id, .int .i64 0, .string ⟨#[]⟩, .int .i64 0, .int .i64 0, .int .u64 0, .string ⟨#[]⟩, .slice none 0 0, .slice none 0 0] (E.some_ (l.take j)) s es wr))
  case atStart => exact ⟨0, .slice none 0 0, [], rfl, by omega, Kept.refl _ _, E.Row.nil _ _, rfl, HB.out.2.1⟩
  case round =>
    obtain ⟨j, s, es, rfl, hj, hC⟩ := hrel
    have hz3 := HB.out.2.2.2
    by_cases hlt : j < l.length
    · obtain ⟨x, ex⟩ : ∃ x, l[j]? = some x := ⟨_, List.getElem?_eq_getElem hlt⟩
      obtain ⟨⟨ad, rfl, h1⟩, hx⟩ := HE.out j x ex
      have hbw0 : Below w.heap.size w wr := HB.out.2.2.1.trans (hC.out.kept.below (by omega) (by simp))
      have HX := Lib.hid hx
      have Hst := Lib.hid (E.some_take ex)
      have hW : ∀ W, W = wr.alloc (.cells x.cs.toArray 29) → Below wr.heap.size wr W ∧ Blk W wr.heap.size 29 x.cs.toArray := fun W h => by
        subst h
        exact ⟨(Below.refl _ _).alloc (Nat.le_refl _) _, Blk.new _ _ _⟩
      simp only [E.cs] at hW
      have HW := Lib.hid hW
      have Hbw0 := Lib.hid hbw0
      obtain ⟨p0, p1, p2, p3, p4, p5, p6, p7, p8, p9, p10⟩ := (h1.below hbw0).eleven
      have hv := Lib.hid (fun w => valueE_any x w)
      unfold ValueE at hv
      simp only [E.v, E.cs] at hv
      clear hx ex h1 hbw0 hW
      go_wp2_with fail
      obtain ⟨hb1, hx5⟩ := HW.out _ rfl
      clear HW p0 p1 p2 p3 p4 p5 p6 p7 p8 p9 p10
      generalize wr.alloc _ = W4 at *
      refine (hv.out W4).mono ?_
      rintro en W5 ⟨v, rfl, hev, hb2⟩
      have hneq := hev.neq (E.right_ok HX.out.2.2) W5
      have hgn := hev.guardNil 17 W5
      have HC5 : Hid (Below wr.heap.size wr W5 ∧ Blk W5 wr.heap.size 29 x.cs.toArray) := ⟨hb1.trans (hb2.mono hb1.size), hx5.to hb2⟩
      clear hb1 hx5 hev hb2 hv
      by_cases hk : x.k = 0
      · have hkb : (x.k != 0) = false := by simpa using hk
        rw [hkb] at hneq
        have hC' : Hid (E.Cf W3 (w.heap.size + 1) #[.int .i64 4, .int .i64 id, .int .i64 0, .string ⟨#[]⟩, .int .i64 0, .int .i64 0, .int .u64 0, .string ⟨#[]⟩, .slice none 0 0, .slice none 0 0] (E.some_ (l.take (j + 1))) s es W5) := by
          have := Hst.out
          rw [if_pos hk] at this
          rw [this]
          exact ⟨hC.out.kept.trans (Kept.of_below HC5.out.1 _), hC.out.row.below HC5.out.1, hC.out.bare, hC.out.b0.to HC5.out.1⟩
        clear hk hC
        go_wp2_with fail
        go_roundg (gk - 1)
        case measure => omega
        case rel => exact ⟨j + 1, s, es, by go_num, by omega, hC'⟩
      · have hkb : (x.k != 0) = true := by simpa using hk
        rw [hkb] at hneq
        have Hst2 : Hid (E.some_ (l.take (j + 1)) = E.some_ (l.take j) ++ [x]) := by
          have := Hst.out
          rw [if_neg hk] at this
          exact this
        clear hk Hst
        go_wp2_with fail
        have hCr := hC.out
        have HR := Lib.hid (hCr.row.below HC5.out.1)
        have hBz : W3.heap.size ≤ W5.heap.size := Nat.le_trans hCr.kept.size HC5.out.1.size
        have hlen2 : es.length ≤ 1000000 := by have := hCr.len; have := E.some_len (l.take j); have := List.length_take_le j l; omega
        have HK := Lib.hid (hCr.b0.to HC5.out.1)
        have Hkp := Lib.hid (hCr.kept.trans (Kept.of_below HC5.out.1 _))
        have hg3 : w.heap.size + 1 < W3.heap.size := by omega
        have Hbw := Lib.hid (Hbw0.out.trans (HC5.out.1.mono Hbw0.out.size))
        have Hs := Lib.hid (fun W (h : Below W5.heap.size W5 W) => (HK.out.below h HK.out.lt).cell 10)
        have Hx := Lib.hid (fun W (h : Below W5.heap.size W5 W) => HC5.out.2.below h HC5.out.2.lt)
        have Hc := Lib.hid (fun W (h : Below W5.heap.size W5 W) => clone_any x.size x W (Nat.le_refl _) HX.out.1 (HX.out.2.1.below (Hbw.out.trans (h.mono Hbw.out.size))))
        have Hbare := Lib.hid hCr.bare
        clear hCr hC hneq hgn
        have uE := Tryz.underlying29
        have uS := Tryz.underlying27
        simp only [E.v, E.cs] at Hc Hx
        refine wp_region_eachC (by kernel_rfl) (by kernel_rfl) (fun done a w' => ∃ x19 x20 x21 x22 x23 x24 x25, a = ⟨#[Value.slice (some ad) l.length c, Value.int IntKind.i64 id, undef, undef, Value.pointer (some ⟨w.heap.size, 0, none⟩), Value.pointer (some ⟨w.heap.size + 1, 0, none⟩), undef, Value.pointer (some ⟨wr.heap.size, 0, none⟩), Value.int IntKind.i64 id, Value.agg #[.int .i64 4, .int .i64 id, .int .i64 0, .string ⟨#[]⟩, .int .i64 0, .int .i64 0, .int .u64 0, .string ⟨#[]⟩, .slice none 0 0, .slice none 0 0, .slice none 0 0], Value.slice (some ad) l.length c, Value.int IntKind.i64 ↑l.length, Value.int IntKind.i64 ↑j, Value.bool true, Value.pointer (some (ad.add (j * 11))), Value.agg #[Value.int IntKind.i64 x.k, Value.int IntKind.i64 x.id, Value.int IntKind.i64 x.code, Value.string x.t, Value.int IntKind.i64 x.body.k, Value.int IntKind.i64 x.body.i, Value.int IntKind.u64 x.body.b, Value.string x.body.t, Value.slice x.body.A x.body.l.length x.body.c, Value.slice x.cA x.codes.length x.cc, Value.slice x.A x.l.length x.c], Value.agg #[Value.int IntKind.i64 x.k, Value.int IntKind.i64 x.id, Value.int IntKind.i64 x.code, Value.string x.t, Value.int IntKind.i64 x.body.k, Value.int IntKind.i64 x.body.i, Value.int IntKind.u64 x.body.b, Value.string x.body.t, Value.slice x.body.A x.body.l.length x.body.c, Value.slice x.cA x.codes.length x.cc, Value.slice x.A x.l.length x.c], v, Value.bool true, x19, x20, x21, x22, x23, x24, x25, u26, undef, undef, undef, undef, undef, undef], []⟩ ∧ AppJ W5 ⟨w.heap.size + 1, 10, none⟩ (E.Got W5 x) (E.Boxed W5 x) (E.Put (W3.heap.size) W5 s es x) (done 3) (done 4) (done 5) (done 7) x22 x23 x24 w' ∧ (done 0 = true → x19 = Value.pointer (some ⟨w.heap.size + 1, 10, none⟩)) ∧ (done 1 = true → x20 = s) ∧ (done 2 = true → x21 = Value.agg #[Value.int IntKind.i64 x.k, Value.int IntKind.i64 x.id, Value.int IntKind.i64 x.code, Value.string x.t, Value.int IntKind.i64 x.body.k, Value.int IntKind.i64 x.body.i, Value.int IntKind.u64 x.body.b, Value.string x.body.t, Value.slice x.body.A x.body.l.length x.body.c, Value.slice x.cA x.codes.length x.cc, Value.slice x.A x.l.length x.c]) ∧ (done 6 = true → x25 = Value.pointer (some ⟨w.heap.size + 1, 10, none⟩))) ?_ ?_ ?_
        · refine ⟨_, _, _, _, _, _, _, rfl, AppJ.start _ _ _ _ _ _ _ _, ?_⟩
          simp
        · refine ⟨?_, ?_, ?_, ?_, ?_, ?_, ?_, ?_, trivial⟩
          · rintro done a wx hd he ⟨x19, x20, x21, x22, x23, x24, x25, rfl, hB, i0, i1, i2, i6⟩ hcl K hK
            refine step_wp rfl (wp_value (Value.pointer (some ⟨w.heap.size + 1, 10, none⟩)) (by kernel_rfl) ?_)
            exact hK _ _ ⟨_, x20, x21, x22, x23, x24, x25, rfl, hB, fun _ => rfl, i1, i2, i6⟩
          · rintro done a wx hd he ⟨x19, x20, x21, x22, x23, x24, x25, rfl, hB, i0, i1, i2, i6⟩ hcl K hK
            simp [Region.binds] at he
            obtain rfl := i0 (by simp [he])
            have hda := hcl.not (a := 5) (by kernel_rfl) (by omega) hd
            refine step_wp rfl (wp_load_cell 27 _ rfl ⟨w.heap.size + 1, 10, none⟩ rfl _ _ (Hs.out wx (hB.first hda).2.1) uS rfl ?_)
            exact hK _ _ ⟨_, _, x21, x22, x23, x24, x25, rfl, hB, fun _ => rfl, fun _ => rfl, i2, i6⟩
          · rintro done a wx hd he ⟨x19, x20, x21, x22, x23, x24, x25, rfl, hB, i0, i1, i2, i6⟩ hcl K hK
            have hda := hcl.not (a := 5) (by kernel_rfl) (by omega) hd
            refine step_wp rfl (wp_load_row 29 _ rfl wr.heap.size rfl _ _ _ _ (Hx.out wx (hB.first hda).2.1) uE rfl sizeE ?_)
            exact hK _ _ ⟨x19, x20, _, x22, x23, x24, x25, rfl, hB, i0, i1, fun _ => rfl, i6⟩
          · rintro done a wx hd he ⟨x19, x20, x21, x22, x23, x24, x25, rfl, hB, i0, i1, i2, i6⟩ hcl K hK
            simp [Region.binds] at he
            obtain rfl := i2 (by simp [he])
            have hda := hcl.not (a := 5) (by kernel_rfl) (by omega) hd
            refine step_wp rfl (wp_call (f := 61) (args := #[Value.agg #[Value.int IntKind.i64 x.k, Value.int IntKind.i64 x.id, Value.int IntKind.i64 x.code, Value.string x.t, Value.int IntKind.i64 x.body.k, Value.int IntKind.i64 x.body.i, Value.int IntKind.u64 x.body.b, Value.string x.body.t, Value.slice x.body.A x.body.l.length x.body.c, Value.slice x.cA x.codes.length x.cc, Value.slice x.A x.l.length x.c]]) (by kernel_rfl) (Hc.out wx (hB.first hda).2.1) ?_)
            intro en w1 hn
            obtain ⟨v, hv, hB⟩ := E.step_call hB hda hn
            exact ⟨v, hv, hK _ _ ⟨x19, x20, _, _, x23, x24, x25, rfl, hB, i0, i1, fun _ => rfl, i6⟩⟩
          · rintro done a wx hd he ⟨x19, x20, x21, x22, x23, x24, x25, rfl, hB, i0, i1, i2, i6⟩ hcl K hK
            simp [Region.binds] at he
            have hda := hcl.not (a := 5) (by kernel_rfl) (by omega) hd
            obtain ⟨u, w1, hr, hB⟩ := E.step_box hB hda (by simp [he])
            refine step_wp rfl (wp_box _ _ _ u rfl rfl hr ?_)
            exact hK _ _ ⟨x19, x20, x21, x22, _, x24, x25, rfl, hB, i0, i1, i2, i6⟩
          · rintro done a wx hd he ⟨x19, x20, x21, x22, x23, x24, x25, rfl, hB, i0, i1, i2, i6⟩ hcl K hK
            simp [Region.binds] at he
            obtain rfl := i1 (by simp [he])
            refine step_wp rfl (E.step_append hB hd (by simp [he]) hBz HR.out hlen2 (.tmp 20) (.tmp 23) rfl rfl rfl ?_)
            intro v' w1 hB
            exact hK _ _ ⟨x19, _, x21, x22, x23, _, x25, rfl, hB, i0, fun _ => rfl, i2, i6⟩
          · rintro done a wx hd he ⟨x19, x20, x21, x22, x23, x24, x25, rfl, hB, i0, i1, i2, i6⟩ hcl K hK
            refine step_wp rfl (wp_value (Value.pointer (some ⟨w.heap.size + 1, 10, none⟩)) (by kernel_rfl) ?_)
            exact hK _ _ ⟨x19, x20, x21, x22, x23, x24, _, rfl, hB, i0, i1, i2, fun _ => rfl⟩
          · rintro done a wx hd he ⟨x19, x20, x21, x22, x23, x24, x25, rfl, hB, i0, i1, i2, i6⟩ hcl K hK
            simp [Region.binds] at he
            obtain rfl := i6 (by simp [he])
            refine step_wp rfl (E.step_store hB (by simp [he]) hd HR.out hg3 HK.out (old := s) rfl (.tmp 25) (.tmp 24) rfl rfl rfl ?_)
            intro w1 hB
            exact hK _ _ ⟨x19, x20, x21, x22, x23, x24, _, rfl, hB, i0, i1, i2, fun _ => rfl⟩
        · rintro done a wx hd ⟨x19, x20, x21, x22, x23, x24, x25, rfl, hB, i0, i1, i2, i6⟩
          have dd : ∀ j, j < 8 → done j = true := fun j h => hd j (by simpa using h)
          have hE := hB.third (dd 7 (by omega))
          obtain rfl := i0 (dd 0 (by omega))
          obtain rfl := i1 (dd 1 (by omega))
          obtain rfl := i2 (dd 2 (by omega))
          obtain rfl := i6 (dd 6 (by omega))
          clear i0 i1 i2 i6 dd hB
          have hN := E.step_end hE HR.out hg3 Hbw.out (Nat.le_add_right _ _) hBz HK.out
          obtain ⟨x', k1, k2, k3, k4, k5, k6, k7⟩ := hN
          have HN : Hid (E.Cf W3 (w.heap.size + 1) #[.int .i64 4, .int .i64 id, .int .i64 0, .string ⟨#[]⟩, .int .i64 0, .int .i64 0, .int .u64 0, .string ⟨#[]⟩, .slice none 0 0, .slice none 0 0] (E.some_ (l.take (j + 1))) x24 (es ++ [x']) wx) :=
            ⟨k7 _ _ Hkp.out (Nat.le_refl _) (by simp), k2, by rw [Hst2.out, E.bareL_append, E.bareL_append, Hbare.out]; show _ ++ [x'.bare] = _ ++ [x.bare]; rw [k1], by simpa using k3⟩
          clear hE k1 k2 k3 k4 k5 k6 k7 Hc Hx Hs HR HK Hbw Hbare hBz uE uS Hkp Hst2
          go_wp2_with fail
          go_roundg (gk - 1)
          case measure => omega
          case rel => exact ⟨j + 1, x24, es ++ [x'], by go_num, by omega, HN⟩
    · obtain rfl : j = l.length := by omega
      have hC2 := hC.out
      rw [List.take_length] at hC2
      have hall : Below w.heap.size w wr := HB.out.2.2.1.trans (hC2.kept.below (by omega) (by simp))
      have B1 := hC2.b0
      have B2 := HB.out.1.kept hC2.kept (by simp)
      have hel := hC2.len
      by_cases hne : E.some_ l = []
      · obtain ⟨sA, sc, rfl, _⟩ := hC2.row.list
        have he0 : es = [] := by rw [hne] at hel; exact List.eq_nil_of_length_eq_zero hel
        subst he0
        have HF := Lib.hid (fun w' h => HPz.out w' hne h)
        have Hbel := Lib.hid hall
        have c10 := B1.cell 10
        have d0 := B2.cell 0
        have d1 := B2.cell 1
        have d2 := B2.cell 2
        have d3 := B2.cell 3
        have d4 := B2.cell 4
        have d5 := B2.cell 5
        have d6 := B2.cell 6
        have d7 := B2.cell 7
        have d8 := B2.cell 8
        have d9 := B2.cell 9
        have d10 := B2.cell 10
        have e0 := B2.frozen 0
        have e1 := B2.frozen 1
        have e2 := B2.frozen 2
        have e3 := B2.frozen 3
        have e4 := B2.frozen 4
        have e5 := B2.frozen 5
        have e6 := B2.frozen 6
        have e7 := B2.frozen 7
        have e8 := B2.frozen 8
        have e9 := B2.frozen 9
        have e10 := B2.frozen 10
        simp at c10 d0 d1 d2 d3 d4 d5 d6 d7 d8 d9 d10
        clear hC hC2 hall hel hne HE HP HPz HB B1 B2 hz3
        go_wp2_with fail
        refine bodyPost_ret (v := .agg #[.int .i64 0, .int .i64 0, .int .i64 0, .string ⟨#[]⟩, .int .i64 0, .int .i64 0, .int .u64 0, .string ⟨#[]⟩, .slice none 0 0, .slice none 0 0, .slice none 0 0]) ?_ rfl (HF.out _ ?_)
        · simp [results, Tryz.results23, go_sem, d0, d1, d2, d3, d4, d5, d6, d7, d8, d9, d10]
        · iterate 11 refine Below.setCell ?_ (by simp) _
          exact Hbel.out
      · have HN := Lib.hid (fun w' h1 h2 => HP.out W3 wr w' _ s es hC2 hne (by omega) h1 h2)
        obtain ⟨sA, sc, rfl, _⟩ := HN.out wr (fun _ _ _ => rfl) hall
        have hel0 : (es.length : Int) ≠ 0 := by
          have : (E.some_ l).length ≠ 0 := fun h => hne (List.eq_nil_of_length_eq_zero h)
          omega
        have helb : ((es.length : Int) == 0) = false := by simpa using hel0
        have hel1 : (es.length : Int) ≤ 1000000 := by have := E.some_len l; omega
        have HF : Hid (∀ w', (∀ k, W3.heap.size ≤ k → k < wr.heap.size → w'.heap[k]? = wr.heap[k]?) → Below w.heap.size w w' → R (.returned (.agg #[.int .i64 4, .int .i64 id, .int .i64 0, .string ⟨#[]⟩, .int .i64 0, .int .i64 0, .int .u64 0, .string ⟨#[]⟩, .slice none 0 0, .slice none 0 0, .slice sA es.length sc])) w') := Lib.hid fun w' h1 h2 => by
          obtain ⟨sA', sc', e1, e2⟩ := HN.out w' h1 h2
          injection e1 with e1 _ e3
          subst e1 e3
          exact e2
        have Hbel := Lib.hid hall
        have c0 := B1.cell 0
        have c1 := B1.cell 1
        have c2 := B1.cell 2
        have c3 := B1.cell 3
        have c4 := B1.cell 4
        have c5 := B1.cell 5
        have c6 := B1.cell 6
        have c7 := B1.cell 7
        have c8 := B1.cell 8
        have c9 := B1.cell 9
        have c10 := B1.cell 10
        have d0 := B2.cell 0
        have d1 := B2.cell 1
        have d2 := B2.cell 2
        have d3 := B2.cell 3
        have d4 := B2.cell 4
        have d5 := B2.cell 5
        have d6 := B2.cell 6
        have d7 := B2.cell 7
        have d8 := B2.cell 8
        have d9 := B2.cell 9
        have d10 := B2.cell 10
        have e0 := B2.frozen 0
        have e1 := B2.frozen 1
        have e2 := B2.frozen 2
        have e3 := B2.frozen 3
        have e4 := B2.frozen 4
        have e5 := B2.frozen 5
        have e6 := B2.frozen 6
        have e7 := B2.frozen 7
        have e8 := B2.frozen 8
        have e9 := B2.frozen 9
        have e10 := B2.frozen 10
        simp at c0 c1 c2 c3 c4 c5 c6 c7 c8 c9 c10 d0 d1 d2 d3 d4 d5 d6 d7 d8 d9 d10
        clear hC hC2 hall hel hne HE HP HPz B1 B2 HN
        go_wp2_with fail
        refine bodyPost_ret (v := .agg #[.int .i64 4, .int .i64 id, .int .i64 0, .string ⟨#[]⟩, .int .i64 0, .int .i64 0, .int .u64 0, .string ⟨#[]⟩, .slice none 0 0, .slice none 0 0, .slice sA es.length sc]) ?_ rfl (HF.out _ ?_ ?_)
        · simp [results, Tryz.results23, go_sem, d0, d1, d2, d3, d4, d5, d6, d7, d8, d9, d10]
        · intro k hk _
          repeat rw [Below.heap_setCell _ _ _ _ (by show k ≠ w.heap.size; omega)]
        · iterate 11 refine Below.setCell ?_ (by simp) _
          exact Hbel.out
end Go.Proofs.YtbhmeapnmpgggaaGreatDoor
