/- errs.clone: the walk. Conditions: the error lies in the world and is not great. -/
import Derived.Test.YtbhmeapnmpgggaaGreatDoorCloneJ
namespace Go.Proofs.YtbhmeapnmpgggaaGreatDoor
open Go.RowKit

mutual
/-- no list in it is great -/
def E.Small : E → Prop
  | .mk _ _ _ _ body _ _ codes _ _ l => body.size ≤ 1000000 ∧ codes.length ≤ 1000000 ∧ l.length ≤ 1000000 ∧ E.SmallL l
def E.SmallL : List E → Prop
  | [] => True
  | x :: l => x.Small ∧ E.SmallL l
end
theorem E.SmallL.at_ : ∀ {l : List E} (_ : E.SmallL l) {q : Nat} {x : E}, l[q]? = some x → x.Small
  | [], _, q, x, h => by simp at h
  | y :: l, h, 0, x, e => by
    have : y = x := by simpa using e
    subst this
    exact h.1
  | y :: l, h, q + 1, x, e => E.SmallL.at_ h.2 (q := q) (by simpa using e)
theorem E.bareL_append (l m : List E) : E.bareL (l ++ m) = E.bareL l ++ E.bareL m := by rw [E.bareL_eq, E.bareL_eq, E.bareL_eq, List.map_append]
theorem E.bareL_snoc {es l : List E} {j : Nat} {x x' : E} (h : E.bareL es = E.bareL (l.take j)) (hx : l[j]? = some x) (hb : x'.bare = x.bare) : E.bareL (es ++ [x']) = E.bareL (l.take (j + 1)) := by
  obtain ⟨hj, rfl⟩ := List.getElem?_eq_some_iff.1 hx
  rw [List.take_succ_eq_append_getElem hj, E.bareL_append, E.bareL_append, h]
  show _ ++ [x'.bare] = _ ++ [_]
  rw [hb]
/-- what holds at the head of a copying loop's rounds -/
structure E.Cl (W3 : World) (g : Nat) (pre : Array Value) (l : List E) (j : Nat) (s : Value) (es : List E) (wr : World) : Prop where
  kept : Kept [g] W3 wr
  row : E.Row W3.heap.size wr s es
  bare : E.bareL es = E.bareL (l.take j)
  b0 : Blk wr g 29 (pre.push s)
theorem E.Cl.len {W3 : World} {g : Nat} {pre : Array Value} {l : List E} {j : Nat} {s : Value} {es : List E} {wr : World} (h : E.Cl W3 g pre l j s es wr) (hj : j ≤ l.length) : es.length = j := by
  rw [← E.bareL_len es, h.bare, E.bareL_len, List.length_take, Nat.min_eq_left hj]
/-- what a copy's memory is, the loop aside -/
structure E.Cp (w : World) (e : E) (b : D) (A' : Option Addr) (c' : Nat) (W3 : World) : Prop where
  below : Below w.heap.size w W3
  big : w.heap.size + 2 ≤ W3.heap.size
  bin : b.In W3
  bbare : b.bare = e.body.bare
  ball : b.All (w.heap.size + 2 ≤ ·)
  cin : CodesIn W3 A' e.codes
  call : e.codes ≠ [] → ∀ ad, A' = some ad → w.heap.size + 2 ≤ ad.block
  cle : e.codes.length ≤ c' ∧ c' ≤ 9223372036854775807
  b1 : Blk W3 (w.heap.size + 1) 29 #[.int .i64 0, .int .i64 0, .int .i64 0, .string ⟨#[]⟩, .int .i64 0, .int .i64 0, .int .u64 0, .string ⟨#[]⟩, .slice none 0 0, .slice none 0 0, .slice none 0 0]
/-- the copy, in whatever world in which its blocks stay -/
theorem E.Cp.new {w : World} {e : E} {b : D} {A' : Option Addr} {c' : Nat} {W3 wr w' : World} {pre : Array Value} {s : Value} {es : List E} (h : E.Cp w e b A' c' W3) (hr : e.Rng) (hC : E.Cl W3 w.heap.size pre e.l e.l.length s es wr)
    (hk : ∀ k, w.heap.size + 2 ≤ k → k < wr.heap.size → w'.heap[k]? = wr.heap[k]?) (hb : Below w.heap.size w w') :
    ∃ sA sc, s = .slice sA es.length sc ∧ E.New e w (.returned (E.mk e.k e.id e.code e.t b A' c' e.codes sA sc es).v) w' := by
  have hrow : E.Row W3.heap.size w' s es := hC.row.turn fun k h1 h2 => hk k (Nat.le_trans h.big h1) h2
  obtain ⟨sA, sc, e1, q1, q2, q3, q4⟩ := hrow.list
  obtain ⟨r1, r2, r3, r4, r5, r6, r7, r8, r9, r10⟩ := hr
  have hb3 : ∀ k, w.heap.size + 2 ≤ k → k < W3.heap.size → w'.heap[k]? = W3.heap[k]? := fun k h1 h2 => (hk k h1 (Nat.lt_of_lt_of_le h2 hC.kept.size)).trans (hC.kept.block k h2 (by simp; omega))
  refine ⟨sA, sc, e1, E.mk e.k e.id e.code e.t b A' c' e.codes sA sc es, rfl, ⟨⟨r1, r2, r3, r4, h.cle.1, h.cle.2, r7, q2, q3, r10⟩, ?_, ?_, q1⟩, ?_, ?_, hb⟩
  · exact h.bin.turn (P := fun k => w.heap.size + 2 ≤ k ∧ k < W3.heap.size) (fun k hk => hb3 k hk.1 hk.2) (h.ball.and h.bin.all)
  · refine h.cin.turn fun hn ad ha => hb3 _ (h.call hn ad ha) ?_
    cases hc : e.codes with
    | nil => exact absurd hc hn
    | cons x l =>
      obtain ⟨ad', e', hc'⟩ := h.cin 0 x (by rw [hc]; rfl)
      rw [ha] at e'; injection e' with e'; subst e'
      have := lt_of_cell hc'
      rwa [block_of_add] at this
  · rw [E.bare, h.bbare, hC.bare, List.take_length]
    cases e; rw [E.bare]; rfl
  · exact ⟨h.ball.mono (fun g hg => by omega), fun hn ad ha => by have := h.call hn ad ha; omega, E.AllL.mono (fun g hg => by have := h.big; omega) q4⟩

set_option maxHeartbeats 2000000 in
set_option maxRecDepth 100000 in
theorem clone_step (n : Nat) (e : E) (w : World) (hn : E.sizeL e.l ≤ n) (hs : e.Small) (he : e.In w)
    (ih : ∀ (x : E) (w : World), x.size ≤ n → x.Small → x.In w → Calls Tryz.prog 61 #[x.v] w (E.New x w)) :
    Calls Tryz.prog 61 #[e.v] w (E.New e w) := by
  have hrg := he.rng
  obtain ⟨k, id, code, t, body, cA, cc, codes, A, c, l⟩ := e
  have HE : Hid (∀ q x, l[q]? = some x → (∃ ad, A = some ad ∧ At w (ad.add (q * 11)) x.cs) ∧ (x.size ≤ n ∧ x.Small ∧ x.In w)) := Lib.hid fun q x h =>
    ⟨(he.at_ h).1, Nat.le_trans (E.sizeL_le h) hn, hs.2.2.2.at_ h, (he.at_ h).2⟩
  have Hcb : Hid (∀ W, Below w.heap.size w W → Calls Tryz.prog 97 #[body.v] W (D.New body W)) := Lib.hid fun W h => cloned_any body.size body W (Nat.le_refl _) hs.1 (he.bod.below h)
  have Hcc : Hid (∀ W, Below w.heap.size w W → Calls Tryz.prog 98 #[.slice cA codes.length cc] W (NewCodes codes W)) := Lib.hid fun W h => codesClone_any codes cA cc W (he.cod.below h) hs.2.1
  have hlen : l.length ≤ 1000000 := hs.2.2.1
  have HRg := Lib.hid hrg
  have hcap : l.length ≤ c ∧ c ≤ 9223372036854775807 := ⟨hrg.2.2.2.2.2.2.2.1, hrg.2.2.2.2.2.2.2.2.1⟩
  have HP : Hid (∀ (b : D) (A' : Option Addr) (c' : Nat) (W3 wr w' : World) (pre : Array Value) (s : Value) (es : List E), E.Cp w (E.mk k id code t body cA cc codes A c l) b A' c' W3 → E.Cl W3 w.heap.size pre l l.length s es wr →
      (∀ k, w.heap.size + 2 ≤ k → k < wr.heap.size → w'.heap[k]? = wr.heap[k]?) → Below w.heap.size w w' →
      ∃ sA sc, s = .slice sA es.length sc ∧ E.New (E.mk k id code t body cA cc codes A c l) w (.returned (.agg #[.int .i64 k, .int .i64 id, .int .i64 code, .string t, .int .i64 b.k, .int .i64 b.i, .int .u64 b.b, .string b.t, .slice b.A b.l.length b.c, .slice A' codes.length c', .slice sA es.length sc])) w') :=
    Lib.hid fun b A' c' W3 wr w' pre s es h1 h2 h3 h4 => E.Cp.new h1 HRg.out h2 h3 h4
  obtain ⟨hc1, hc2⟩ := hcap
  have hW : ∀ W, W = ((w.alloc (.cells (E.mk k id code t body cA cc codes A c l).cs.toArray 29)).alloc (.cells #[.int .i64 0, .int .i64 0, .int .i64 0, .string ⟨#[]⟩, .int .i64 0, .int .i64 0, .int .u64 0, .string ⟨#[]⟩, .slice none 0 0, .slice none 0 0, .slice none 0 0] 29)) →
      Blk W w.heap.size 29 (E.mk k id code t body cA cc codes A c l).cs.toArray ∧ Blk W (w.heap.size + 1) 29 #[.int .i64 0, .int .i64 0, .int .i64 0, .string ⟨#[]⟩, .int .i64 0, .int .i64 0, .int .u64 0, .string ⟨#[]⟩, .slice none 0 0, .slice none 0 0, .slice none 0 0] ∧ Below w.heap.size w W ∧ W.heap.size = w.heap.size + 2 := fun W h => by
    subst h
    exact ⟨(Blk.new _ _ _).alloc _, Blk.new' (by simp) _ _, two_alloc _ _ _, by simp⟩
  simp only [E.cs, E.k_mk, E.id_mk, E.code_mk, E.t_mk, E.body_mk, E.cA_mk, E.cc_mk, E.codes_mk, E.A_mk, E.c_mk, E.l_mk] at hW
  have HW := Lib.hid hW
  clear hn he hs hW hrg
  generalize hR : E.New (E.mk k id code t body cA cc codes A c l) w = R at HP ⊢
  clear hR
  simp only [E.v, E.cs, E.k_mk, E.id_mk, E.code_mk, E.t_mk, E.body_mk, E.cA_mk, E.cc_mk, E.codes_mk, E.A_mk, E.c_mk, E.l_mk]
  simp only [D.v, D.cs] at Hcb
  go_enter Tryz.func61, Tryz.ntmps61
  go_upto_region 2 with fail
  obtain ⟨b1, b2, b3, b4⟩ := HW.out _ rfl
  clear HW
  generalize (w.alloc _).alloc _ = W1 at *
  have HB := Lib.hid (And.intro b1 (And.intro b2 (And.intro b3 b4)))
  clear b1 b2 b3 b4
  have Hcb := Lib.hid (fun W (h : Kept [w.heap.size] W1 W) => Hcb.out W (HB.out.2.2.1.trans (h.below (by have := HB.out.2.2.2; omega) (by simp))))
  have Hcc := Lib.hid (fun W (h : Kept [w.heap.size] W1 W) => Hcc.out W (HB.out.2.2.1.trans (h.below (by have := HB.out.2.2.2; omega) (by simp))))
  have uD := Tryz.underlying25
  have uI := Tryz.underlying26
  have sD : (Tryz.prog.info? 25).map (·.size) = some 5 := by kernel_rfl
  refine wp_region_eachC (by kernel_rfl) (by kernel_rfl) (fun done a w' => ∃ x8 x9 x10 x11 x12 x13 x14 x15 x16, a = ⟨#[Value.agg #[Value.int IntKind.i64 k, Value.int IntKind.i64 id, Value.int IntKind.i64 code, Value.string t, Value.int IntKind.i64 body.k, Value.int IntKind.i64 body.i, Value.int IntKind.u64 body.b, Value.string body.t, Value.slice body.A body.l.length body.c, Value.slice cA codes.length cc, Value.slice A l.length c], Value.pointer (some ⟨w.heap.size, 0, none⟩), Value.pointer (some ⟨w.heap.size + 1, 0, none⟩), Value.slice A l.length c, undef, undef, Value.pointer (some ⟨w.heap.size, 10, none⟩), Value.slice A l.length c, x8, x9, x10, x11, x12, x13, x14, x15, x16, undef, undef, undef, undef, undef, undef, undef, undef, undef, undef, undef, undef, undef, undef, undef], []⟩ ∧ E.ClJ W1 w.heap.size (E.mk k id code t body cA cc codes A c l) (done 2) (done 5) (done 7) (done 9) (done 11) x10 x13 w' ∧ (done 0 = true → x8 = Value.pointer (some ⟨w.heap.size, 4, none⟩)) ∧ (done 1 = true → x9 = Value.agg #[Value.int IntKind.i64 body.k, Value.int IntKind.i64 body.i, Value.int IntKind.u64 body.b, Value.string body.t, Value.slice body.A body.l.length body.c]) ∧ (done 3 = true → x11 = Value.pointer (some ⟨w.heap.size, 9, none⟩)) ∧ (done 4 = true → x12 = Value.slice cA codes.length cc) ∧ (done 6 = true → x14 = Value.pointer (some ⟨w.heap.size, 4, none⟩)) ∧ (done 8 = true → x15 = Value.pointer (some ⟨w.heap.size, 9, none⟩)) ∧ (done 10 = true → x16 = Value.pointer (some ⟨w.heap.size, 10, none⟩))) ?_ ?_ ?_
  · refine ⟨_, _, _, _, _, _, _, _, _, rfl, E.ClJ.start HB.out.1 _ _, ?_⟩
    simp
  · refine ⟨?_, ?_, ?_, ?_, ?_, ?_, ?_, ?_, ?_, ?_, ?_, ?_, trivial⟩
    · rintro done a wx hd he ⟨x8, x9, x10, x11, x12, x13, x14, x15, x16, rfl, hB, i0, i1, i3, i4, i6, i8, i10⟩ hcl K hK
      refine step_wp rfl (wp_value (Value.pointer (some ⟨w.heap.size, 4, none⟩)) (by kernel_rfl) ?_)
      exact hK _ _ ⟨_, x9, x10, x11, x12, x13, x14, x15, x16, rfl, hB, fun _ => rfl, i1, i3, i4, i6, i8, i10⟩
    · rintro done a wx hd he ⟨x8, x9, x10, x11, x12, x13, x14, x15, x16, rfl, hB, i0, i1, i3, i4, i6, i8, i10⟩ hcl K hK
      simp [Region.binds] at he
      obtain rfl := i0 (by simp [he])
      refine step_wp rfl (wp_load_at 25 _ rfl ⟨w.heap.size, 4, none⟩ rfl body.cs _ (hB.body (hcl.not (a := 7) (by kernel_rfl) (by omega) hd)) uD rfl sD ?_)
      exact hK _ _ ⟨_, _, x10, x11, x12, x13, x14, x15, x16, rfl, hB, fun _ => rfl, fun _ => rfl, i3, i4, i6, i8, i10⟩
    · rintro done a wx hd he ⟨x8, x9, x10, x11, x12, x13, x14, x15, x16, rfl, hB, i0, i1, i3, i4, i6, i8, i10⟩ hcl K hK
      simp [Region.binds] at he
      obtain rfl := i1 (by simp [he])
      refine step_wp rfl (wp_call (f := 97) (args := #[Value.agg #[Value.int IntKind.i64 body.k, Value.int IntKind.i64 body.i, Value.int IntKind.u64 body.b, Value.string body.t, Value.slice body.A body.l.length body.c]]) (by kernel_rfl) (Hcb.out wx hB.kept) ?_)
      intro en w1 hn
      obtain ⟨v, hv, hB⟩ := hB.call (hcl.not (a := 7) (by kernel_rfl) (by omega) hd) hn
      exact ⟨v, hv, hK _ _ ⟨x8, _, _, x11, x12, x13, x14, x15, x16, rfl, hB, i0, fun _ => rfl, i3, i4, i6, i8, i10⟩⟩
    · rintro done a wx hd he ⟨x8, x9, x10, x11, x12, x13, x14, x15, x16, rfl, hB, i0, i1, i3, i4, i6, i8, i10⟩ hcl K hK
      refine step_wp rfl (wp_value (Value.pointer (some ⟨w.heap.size, 9, none⟩)) (by kernel_rfl) ?_)
      exact hK _ _ ⟨x8, x9, x10, _, x12, x13, x14, x15, x16, rfl, hB, i0, i1, fun _ => rfl, i4, i6, i8, i10⟩
    · rintro done a wx hd he ⟨x8, x9, x10, x11, x12, x13, x14, x15, x16, rfl, hB, i0, i1, i3, i4, i6, i8, i10⟩ hcl K hK
      simp [Region.binds] at he
      obtain rfl := i3 (by simp [he])
      refine step_wp rfl (wp_load_cell 26 _ rfl ⟨w.heap.size, 9, none⟩ rfl _ _ (hB.codes (hcl.not (a := 9) (by kernel_rfl) (by omega) hd)) uI rfl ?_)
      exact hK _ _ ⟨x8, x9, x10, _, _, x13, x14, x15, x16, rfl, hB, i0, i1, fun _ => rfl, fun _ => rfl, i6, i8, i10⟩
    · rintro done a wx hd he ⟨x8, x9, x10, x11, x12, x13, x14, x15, x16, rfl, hB, i0, i1, i3, i4, i6, i8, i10⟩ hcl K hK
      simp [Region.binds] at he
      obtain rfl := i4 (by simp [he])
      refine step_wp rfl (wp_call (f := 98) (args := #[Value.slice cA codes.length cc]) (by kernel_rfl) (Hcc.out wx hB.kept) ?_)
      intro en w1 hn
      obtain ⟨v, hv, hB⟩ := hB.call2 (hcl.not (a := 9) (by kernel_rfl) (by omega) hd) hn
      exact ⟨v, hv, hK _ _ ⟨x8, x9, x10, x11, _, _, x14, x15, x16, rfl, hB, i0, i1, i3, fun _ => rfl, i6, i8, i10⟩⟩
    · rintro done a wx hd he ⟨x8, x9, x10, x11, x12, x13, x14, x15, x16, rfl, hB, i0, i1, i3, i4, i6, i8, i10⟩ hcl K hK
      refine step_wp rfl (wp_value (Value.pointer (some ⟨w.heap.size, 4, none⟩)) (by kernel_rfl) ?_)
      exact hK _ _ ⟨x8, x9, x10, x11, x12, x13, _, x15, x16, rfl, hB, i0, i1, i3, i4, fun _ => rfl, i8, i10⟩
    · rintro done a wx hd he ⟨x8, x9, x10, x11, x12, x13, x14, x15, x16, rfl, hB, i0, i1, i3, i4, i6, i8, i10⟩ hcl K hK
      simp [Region.binds] at he
      obtain rfl := i6 (by simp [he])
      refine step_wp rfl (hB.store7 HB.out.1.lt (by simp [he]) (.tmp 14) (.tmp 10) rfl rfl rfl ?_)
      intro w1 hB
      exact hK _ _ ⟨x8, x9, x10, x11, x12, x13, _, x15, x16, rfl, hB, i0, i1, i3, i4, fun _ => rfl, i8, i10⟩
    · rintro done a wx hd he ⟨x8, x9, x10, x11, x12, x13, x14, x15, x16, rfl, hB, i0, i1, i3, i4, i6, i8, i10⟩ hcl K hK
      refine step_wp rfl (wp_value (Value.pointer (some ⟨w.heap.size, 9, none⟩)) (by kernel_rfl) ?_)
      exact hK _ _ ⟨x8, x9, x10, x11, x12, x13, x14, _, x16, rfl, hB, i0, i1, i3, i4, i6, fun _ => rfl, i10⟩
    · rintro done a wx hd he ⟨x8, x9, x10, x11, x12, x13, x14, x15, x16, rfl, hB, i0, i1, i3, i4, i6, i8, i10⟩ hcl K hK
      simp [Region.binds] at he
      obtain rfl := i8 (by simp [he])
      refine step_wp rfl (hB.store9 HB.out.1.lt (by simp [he]) (.tmp 15) (.tmp 13) rfl rfl rfl ?_)
      intro w1 hB
      exact hK _ _ ⟨x8, x9, x10, x11, x12, x13, x14, _, x16, rfl, hB, i0, i1, i3, i4, i6, fun _ => rfl, i10⟩
    · rintro done a wx hd he ⟨x8, x9, x10, x11, x12, x13, x14, x15, x16, rfl, hB, i0, i1, i3, i4, i6, i8, i10⟩ hcl K hK
      refine step_wp rfl (wp_value (Value.pointer (some ⟨w.heap.size, 10, none⟩)) (by kernel_rfl) ?_)
      exact hK _ _ ⟨x8, x9, x10, x11, x12, x13, x14, x15, _, rfl, hB, i0, i1, i3, i4, i6, i8, fun _ => rfl⟩
    · rintro done a wx hd he ⟨x8, x9, x10, x11, x12, x13, x14, x15, x16, rfl, hB, i0, i1, i3, i4, i6, i8, i10⟩ hcl K hK
      simp [Region.binds] at he
      obtain rfl := i10 (by simp [he])
      refine step_wp rfl (hB.store11 HB.out.1.lt (.tmp 16) (.const (.slice none 0 0)) rfl rfl rfl ?_)
      intro w1 hB
      exact hK _ _ ⟨x8, x9, x10, x11, x12, x13, x14, x15, _, rfl, hB, i0, i1, i3, i4, i6, i8, fun _ => rfl⟩
  · rintro done a W3 hd ⟨x8, x9, x10, x11, x12, x13, x14, x15, x16, rfl, hB, i0, i1, i3, i4, i6, i8, i10⟩
    have dd : ∀ j, j < 12 → done j = true := fun j h => hd j (by simpa using h)
    rw [dd 2 (by omega), dd 5 (by omega), dd 7 (by omega), dd 9 (by omega), dd 11 (by omega)] at hB
    obtain rfl := i0 (dd 0 (by omega))
    obtain rfl := i1 (dd 1 (by omega))
    obtain rfl := i3 (dd 3 (by omega))
    obtain rfl := i4 (dd 4 (by omega))
    obtain rfl := i6 (dd 6 (by omega))
    obtain rfl := i8 (dd 8 (by omega))
    obtain rfl := i10 (dd 10 (by omega))
    clear i0 i1 i3 i4 i6 i8 i10 dd
    obtain ⟨b, A', c', k1, k2, k3, k4⟩ := hB
    obtain ⟨rfl, m1, m2, m3⟩ := k2 rfl
    obtain ⟨rfl, n1, n2, n3, n4⟩ := k3 rfl
    have hz := HB.out.2.2.2
    have HCp : Hid (E.Cp w (E.mk k id code t body cA cc codes A c l) b A' c' W3) := ⟨HB.out.2.2.1.trans (k1.below (by omega) (by simp)), by have := k1.size; omega, m1, m2, m3.mono fun g hg => by omega, n1, fun hn ad ha => by have := n2 hn ad ha; omega, ⟨n3, n4⟩, HB.out.2.1.kept k1 (by simp)⟩
    have HC0 : Hid (E.Cl W3 w.heap.size #[.int .i64 k, .int .i64 id, .int .i64 code, .string t, .int .i64 b.k, .int .i64 b.i, .int .u64 b.b, .string b.t, .slice b.A b.l.length b.c, .slice A' codes.length c'] l 0 (.slice none 0 0) [] W3) := ⟨Kept.refl _ _, E.Row.nil _ _, rfl, k4⟩
    have Hz3 : Hid (w.heap.size + 2 ≤ W3.heap.size) := by have := k1.size; show _ ≤ _; omega
    clear k1 k2 k3 k4 m1 m2 m3 n1 n2 n3 n4 hz Hcb Hcc uD uI sD HB
    go_wp2_with fail
    go_loopg [19] l.length (fun gk i wr => ∃ (j : Nat) (s : Value) (es : List E), i = .int .i64 j ∧ j + gk = l.length ∧ Hid (E.Cl W3 w.heap.size #[.int .i64 k, .int .i64 id, .int .i64 code, .string t, .int .i64 b.k, .int .i64 b.i, .int .u64 b.b, .string b.t, .slice b.A b.l.length b.c, .slice A' codes.length c'] l j s es wr))
    case atStart => exact ⟨0, .slice none 0 0, [], rfl, by omega, HC0⟩
    case round =>
      clear HC0
      obtain ⟨j, s, es, rfl, hj, hC⟩ := hrel
      by_cases hlt : j < l.length
      · obtain ⟨x, ex⟩ : ∃ x, l[j]? = some x := ⟨_, List.getElem?_eq_getElem hlt⟩
        obtain ⟨⟨ad, rfl, h1⟩, hx⟩ := HE.out j x ex
        have hall : Below w.heap.size w wr := HCp.out.below.trans (hC.out.kept.below HCp.out.below.size (by simp))
        obtain ⟨p0, p1, p2, p3, p4, p5, p6, p7, p8, p9, p10⟩ := (h1.below hall).eleven
        have hW : ∀ W, W = wr.alloc (.cells x.cs.toArray 29) → Below wr.heap.size wr W ∧ Blk W wr.heap.size 29 x.cs.toArray := fun W h => by
          subst h
          exact ⟨(Below.refl _ _).alloc (Nat.le_refl _) _, Blk.new _ _ _⟩
        simp only [E.cs] at hW
        have HW := Lib.hid hW
        have HX := Lib.hid hx
        have Hex := Lib.hid ex
        have Hall := Lib.hid hall
        clear hW hx h1 ex hall
        go_wp2_with fail
        obtain ⟨hb1, hx5⟩ := HW.out _ rfl
        clear HW p0 p1 p2 p3 p4 p5 p6 p7 p8 p9 p10
        generalize wr.alloc _ = W4 at *
        have hCr := hC.out
        have hbw : Below w.heap.size w W4 := Hall.out.trans (hb1.mono Hall.out.size)
        have HR := Lib.hid (hCr.row.below hb1)
        have hBz : W3.heap.size ≤ W4.heap.size := Nat.le_trans hCr.kept.size hb1.size
        have hlen2 : es.length ≤ 1000000 := by have := hCr.len (by omega); omega
        have HK := Lib.hid (hCr.b0.below hb1 hCr.b0.lt)
        have Hbw := Lib.hid hbw
        have Hkp := Lib.hid (hCr.kept.trans (Kept.of_below hb1 _))
        have Hs := Lib.hid (fun W (h : Below W4.heap.size W4 W) => (HK.out.below h HK.out.lt).cell 10)
        have Hx := Lib.hid (fun W (h : Below W4.heap.size W4 W) => hx5.below h hx5.lt)
        have Hc := Lib.hid (fun W (h : Below W4.heap.size W4 W) => ih x W HX.out.1 HX.out.2.1 (HX.out.2.2.below (hbw.trans (h.mono hbw.size))))
        have Hbare := Lib.hid hCr.bare
        have hg3 : w.heap.size < W3.heap.size := by have := Hz3.out; omega
        clear hCr hbw hb1 hx5 hC Hall
        have uE := Tryz.underlying29
        have uS := Tryz.underlying27
        have sE : (Tryz.prog.info? 29).map (·.size) = some 11 := by kernel_rfl
        simp only [E.v, E.cs] at Hc Hx
        refine wp_region_eachC (by kernel_rfl) (by kernel_rfl) (fun done a w' => ∃ x23 x24 x25 x26 x27 x28 x29, a = ⟨#[Value.agg #[Value.int IntKind.i64 k, Value.int IntKind.i64 id, Value.int IntKind.i64 code, Value.string t, Value.int IntKind.i64 body.k, Value.int IntKind.i64 body.i, Value.int IntKind.u64 body.b, Value.string body.t, Value.slice body.A body.l.length body.c, Value.slice cA codes.length cc, Value.slice (some ad) l.length c], Value.pointer (some ⟨w.heap.size, 0, none⟩), Value.pointer (some ⟨w.heap.size + 1, 0, none⟩), Value.slice (some ad) l.length c, undef, Value.pointer (some ⟨wr.heap.size, 0, none⟩), Value.pointer (some ⟨w.heap.size, 10, none⟩), Value.slice (some ad) l.length c, Value.pointer (some ⟨w.heap.size, 4, none⟩), Value.agg #[Value.int IntKind.i64 body.k, Value.int IntKind.i64 body.i, Value.int IntKind.u64 body.b, Value.string body.t, Value.slice body.A body.l.length body.c], b.v, Value.pointer (some ⟨w.heap.size, 9, none⟩), Value.slice cA codes.length cc, Value.slice A' codes.length c', Value.pointer (some ⟨w.heap.size, 4, none⟩), Value.pointer (some ⟨w.heap.size, 9, none⟩), Value.pointer (some ⟨w.heap.size, 10, none⟩), Value.slice (some ad) l.length c, Value.int IntKind.i64 ↑l.length, Value.int IntKind.i64 ↑j, Value.bool true, Value.pointer (some (ad.add (j * 11))), Value.agg #[Value.int IntKind.i64 x.k, Value.int IntKind.i64 x.id, Value.int IntKind.i64 x.code, Value.string x.t, Value.int IntKind.i64 x.body.k, Value.int IntKind.i64 x.body.i, Value.int IntKind.u64 x.body.b, Value.string x.body.t, Value.slice x.body.A x.body.l.length x.body.c, Value.slice x.cA x.codes.length x.cc, Value.slice x.A x.l.length x.c], x23, x24, x25, x26, x27, x28, x29, u30, undef], []⟩ ∧ AppJ W4 ⟨w.heap.size, 10, none⟩ (E.Got W4 x) (E.Boxed W4 x) (E.Put (W3.heap.size) W4 s es x) (done 3) (done 4) (done 5) (done 7) x26 x27 x28 w' ∧ (done 0 = true → x23 = Value.pointer (some ⟨w.heap.size, 10, none⟩)) ∧ (done 1 = true → x24 = s) ∧ (done 2 = true → x25 = Value.agg #[Value.int IntKind.i64 x.k, Value.int IntKind.i64 x.id, Value.int IntKind.i64 x.code, Value.string x.t, Value.int IntKind.i64 x.body.k, Value.int IntKind.i64 x.body.i, Value.int IntKind.u64 x.body.b, Value.string x.body.t, Value.slice x.body.A x.body.l.length x.body.c, Value.slice x.cA x.codes.length x.cc, Value.slice x.A x.l.length x.c]) ∧ (done 6 = true → x29 = Value.pointer (some ⟨w.heap.size, 10, none⟩))) ?_ ?_ ?_
        · refine ⟨_, _, _, _, _, _, _, rfl, AppJ.start _ _ _ _ _ _ _ _, ?_⟩
          simp
        · refine ⟨?_, ?_, ?_, ?_, ?_, ?_, ?_, ?_, trivial⟩
          · rintro done a wx hd he ⟨x23, x24, x25, x26, x27, x28, x29, rfl, hB, i0, i1, i2, i6⟩ hcl K hK
            refine step_wp rfl (wp_value (Value.pointer (some ⟨w.heap.size, 10, none⟩)) (by kernel_rfl) ?_)
            exact hK _ _ ⟨_, x24, x25, x26, x27, x28, x29, rfl, hB, fun _ => rfl, i1, i2, i6⟩
          · rintro done a wx hd he ⟨x23, x24, x25, x26, x27, x28, x29, rfl, hB, i0, i1, i2, i6⟩ hcl K hK
            simp [Region.binds] at he
            obtain rfl := i0 (by simp [he])
            have hda := hcl.not (a := 5) (by kernel_rfl) (by omega) hd
            refine step_wp rfl (wp_load_cell 27 _ rfl ⟨w.heap.size, 10, none⟩ rfl _ _ (Hs.out wx (hB.first hda).2.1) uS rfl ?_)
            exact hK _ _ ⟨_, _, x25, x26, x27, x28, x29, rfl, hB, fun _ => rfl, fun _ => rfl, i2, i6⟩
          · rintro done a wx hd he ⟨x23, x24, x25, x26, x27, x28, x29, rfl, hB, i0, i1, i2, i6⟩ hcl K hK
            have hda := hcl.not (a := 5) (by kernel_rfl) (by omega) hd
            refine step_wp rfl (wp_load_row 29 _ rfl wr.heap.size rfl _ _ _ _ (Hx.out wx (hB.first hda).2.1) uE rfl sE ?_)
            exact hK _ _ ⟨x23, x24, _, x26, x27, x28, x29, rfl, hB, i0, i1, fun _ => rfl, i6⟩
          · rintro done a wx hd he ⟨x23, x24, x25, x26, x27, x28, x29, rfl, hB, i0, i1, i2, i6⟩ hcl K hK
            simp [Region.binds] at he
            obtain rfl := i2 (by simp [he])
            have hda := hcl.not (a := 5) (by kernel_rfl) (by omega) hd
            refine step_wp rfl (wp_call (f := 61) (args := #[Value.agg #[Value.int IntKind.i64 x.k, Value.int IntKind.i64 x.id, Value.int IntKind.i64 x.code, Value.string x.t, Value.int IntKind.i64 x.body.k, Value.int IntKind.i64 x.body.i, Value.int IntKind.u64 x.body.b, Value.string x.body.t, Value.slice x.body.A x.body.l.length x.body.c, Value.slice x.cA x.codes.length x.cc, Value.slice x.A x.l.length x.c]]) (by kernel_rfl) (Hc.out wx (hB.first hda).2.1) ?_)
            intro en w1 hn
            obtain ⟨v, hv, hB⟩ := E.step_call hB hda hn
            exact ⟨v, hv, hK _ _ ⟨x23, x24, _, _, x27, x28, x29, rfl, hB, i0, i1, fun _ => rfl, i6⟩⟩
          · rintro done a wx hd he ⟨x23, x24, x25, x26, x27, x28, x29, rfl, hB, i0, i1, i2, i6⟩ hcl K hK
            simp [Region.binds] at he
            have hda := hcl.not (a := 5) (by kernel_rfl) (by omega) hd
            obtain ⟨u, w1, hr, hB⟩ := E.step_box hB hda (by simp [he])
            refine step_wp rfl (wp_box _ _ _ u rfl rfl hr ?_)
            exact hK _ _ ⟨x23, x24, x25, x26, _, x28, x29, rfl, hB, i0, i1, i2, i6⟩
          · rintro done a wx hd he ⟨x23, x24, x25, x26, x27, x28, x29, rfl, hB, i0, i1, i2, i6⟩ hcl K hK
            simp [Region.binds] at he
            obtain rfl := i1 (by simp [he])
            refine step_wp rfl (E.step_append hB hd (by simp [he]) hBz HR.out hlen2 (.tmp 24) (.tmp 27) rfl rfl rfl ?_)
            intro v' w1 hB
            exact hK _ _ ⟨x23, _, x25, x26, x27, _, x29, rfl, hB, i0, fun _ => rfl, i2, i6⟩
          · rintro done a wx hd he ⟨x23, x24, x25, x26, x27, x28, x29, rfl, hB, i0, i1, i2, i6⟩ hcl K hK
            refine step_wp rfl (wp_value (Value.pointer (some ⟨w.heap.size, 10, none⟩)) (by kernel_rfl) ?_)
            exact hK _ _ ⟨x23, x24, x25, x26, x27, x28, _, rfl, hB, i0, i1, i2, fun _ => rfl⟩
          · rintro done a wx hd he ⟨x23, x24, x25, x26, x27, x28, x29, rfl, hB, i0, i1, i2, i6⟩ hcl K hK
            simp [Region.binds] at he
            obtain rfl := i6 (by simp [he])
            refine step_wp rfl (E.step_store hB (by simp [he]) hd HR.out hg3 HK.out (old := s) rfl (.tmp 29) (.tmp 28) rfl rfl rfl ?_)
            intro w1 hB
            exact hK _ _ ⟨x23, x24, x25, x26, x27, x28, _, rfl, hB, i0, i1, i2, fun _ => rfl⟩
        · rintro done a wx hd ⟨x23, x24, x25, x26, x27, x28, x29, rfl, hB, i0, i1, i2, i6⟩
          have dd : ∀ j, j < 8 → done j = true := fun j h => hd j (by simpa using h)
          have hE := hB.third (dd 7 (by omega))
          obtain rfl := i0 (dd 0 (by omega))
          obtain rfl := i1 (dd 1 (by omega))
          obtain rfl := i2 (dd 2 (by omega))
          obtain rfl := i6 (dd 6 (by omega))
          clear i0 i1 i2 i6 dd hB
          have hN := E.step_end hE HR.out hg3 Hbw.out (Nat.le_refl _) hBz HK.out
          obtain ⟨x', k1, k2, k3, k4, k5, k6, k7⟩ := hN
          have HN : Hid (E.Cl W3 w.heap.size #[.int .i64 k, .int .i64 id, .int .i64 code, .string t, .int .i64 b.k, .int .i64 b.i, .int .u64 b.b, .string b.t, .slice b.A b.l.length b.c, .slice A' codes.length c'] l (j + 1) x28 (es ++ [x']) wx) :=
            ⟨k7 _ _ Hkp.out (Nat.le_refl _) (by simp), k2, E.bareL_snoc Hbare.out Hex.out k1, by simpa using k3⟩
          clear hE k1 k2 k3 k4 k5 k6 k7 Hc Hx Hs HR HK Hbw Hbare hBz uE uS sE Hkp
          go_wp2_with fail
          go_roundg (gk - 1)
          case measure => omega
          case rel => exact ⟨j + 1, x28, es ++ [x'], by go_num, by omega, HN⟩
      · obtain rfl : j = l.length := by omega
        have hC2 := hC.out
        have hall : Below w.heap.size w wr := HCp.out.below.trans (hC2.kept.below HCp.out.below.size (by simp))
        have HN := Lib.hid (fun w' h1 h2 => HP.out b A' c' W3 wr w' _ s es HCp.out hC2 h1 h2)
        obtain ⟨sA, sc, rfl, _⟩ := HN.out wr (fun _ _ _ => rfl) hall
        have HF : Hid (∀ w', (∀ k, w.heap.size + 2 ≤ k → k < wr.heap.size → w'.heap[k]? = wr.heap[k]?) → Below w.heap.size w w' →
          R (.returned (.agg #[.int .i64 k, .int .i64 id, .int .i64 code, .string t, .int .i64 b.k, .int .i64 b.i, .int .u64 b.b, .string b.t, .slice b.A b.l.length b.c, .slice A' codes.length c', .slice sA es.length sc])) w') := Lib.hid fun w' h1 h2 => by
          obtain ⟨sA', sc', e1, e2⟩ := HN.out w' h1 h2
          injection e1 with e1 _ e3
          subst e1 e3
          exact e2
        have B1 := hC2.b0
        have B2 := HCp.out.b1.kept hC2.kept (by simp)
        have c0 := B1.cell 0
        have c1 := B1.cell 1
        have c2 := B1.cell 2
        have c3 := B1.cell 3
        have c4 := B1.cell 4
        have c5 := B1.cell 5
        have c6 := B1.cell 6
        have c7 := B1.cell 7
        have c8 := B1.cell 8
        have c9 := B1.cell 9
        have c10 := B1.cell 10
        have d0 := B2.cell 0
        have d1 := B2.cell 1
        have d2 := B2.cell 2
        have d3 := B2.cell 3
        have d4 := B2.cell 4
        have d5 := B2.cell 5
        have d6 := B2.cell 6
        have d7 := B2.cell 7
        have d8 := B2.cell 8
        have d9 := B2.cell 9
        have d10 := B2.cell 10
        have e0 := B2.frozen 0
        have e1 := B2.frozen 1
        have e2 := B2.frozen 2
        have e3 := B2.frozen 3
        have e4 := B2.frozen 4
        have e5 := B2.frozen 5
        have e6 := B2.frozen 6
        have e7 := B2.frozen 7
        have e8 := B2.frozen 8
        have e9 := B2.frozen 9
        have e10 := B2.frozen 10
        simp at c0 c1 c2 c3 c4 c5 c6 c7 c8 c9 c10 d0 d1 d2 d3 d4 d5 d6 d7 d8 d9 d10
        have Hbel := Lib.hid hall
        clear hC hC2 hall HN HE HP HCp B1 B2
        go_wp2_with fail
        refine bodyPost_ret (v := .agg #[.int .i64 k, .int .i64 id, .int .i64 code, .string t, .int .i64 b.k, .int .i64 b.i, .int .u64 b.b, .string b.t, .slice b.A b.l.length b.c, .slice A' codes.length c', .slice sA es.length sc]) ?_ rfl (HF.out _ ?_ ?_)
        · simp [results, Tryz.results61, go_sem, d0, d1, d2, d3, d4, d5, d6, d7, d8, d9, d10]
        · intro k hk _
          repeat rw [Below.heap_setCell _ _ _ _ (by show k ≠ w.heap.size + 1; omega)]
        · repeat refine Below.setCell ?_ (Nat.le_succ _) _
          exact Hbel.out

theorem clone_any (n : Nat) : ∀ (e : E) (w : World), e.size ≤ n → e.Small → e.In w → Calls Tryz.prog 61 #[e.v] w (E.New e w) := by
  induction n with
  | zero => intro e w h; have := e.size_eq; omega
  | succ n ih => exact fun e w h1 h2 h3 => clone_step n e w (by have := e.size_eq; omega) h2 h3 ih
end Go.Proofs.YtbhmeapnmpgggaaGreatDoor
/- errors.Unwrap, errs.back, errs.Unwrap: the walks. Conditions: the error lies in the world and is valid. -/
namespace Go.Proofs.YtbhmeapnmpgggaaGreatDoor
open Go.RowKit

/-- the error value of a part -/
def UnwG (w : World) (x : E) (en : Ending) (w' : World) : Prop := ∃ v, en = .returned v ∧ EV 0 w' x v ∧ Below w.heap.size w w'
set_option maxRecDepth 100000 in
theorem asU0 (T : TypeId) (hT : T = 106 ∨ T = 94 ∨ T = 108 ∨ T = 111 ∨ T = 112 ∨ T = 114 ∨ T = 115) (x : Value) : ∀ w, (Instr.typeAssert (.iface T x) 68 129 true).run Tryz.prog w = .ok (.tuple #[.nilIface, .bool false]) w := by
  rcases hT with rfl | rfl | rfl | rfl | rfl | rfl | rfl <;> exact fun w => run_typeAssert_lacksB Tryz.underlying129 (by kernel_rfl) (by kernel_rfl) x _ w
set_option maxRecDepth 100000 in
theorem asU1 (T : TypeId) (hT : T = 107 ∨ T = 113) (x : Value) : ∀ w, (Instr.typeAssert (.iface T x) 68 129 true).run Tryz.prog w = .ok (.tuple #[.iface T x, .bool true]) w := by
  intro w
  rcases hT with rfl | rfl
  · kernel_rfl
  · kernel_rfl
theorem asUn : ∀ w, (Instr.typeAssert .nilIface 68 129 true).run Tryz.prog w = .ok (.tuple #[.nilIface, .bool false]) w := fun _ => by kernel_rfl
theorem unw_other {e : E} (h : e.k ≠ 3 ∧ e.k ≠ 8) : e.unw = E.zero := by unfold E.unw; rw [if_neg (by omega)]

set_option maxHeartbeats 1000000 in
set_option maxRecDepth 100000 in
theorem errorsUnwrap_no (v : Value) (w : World) (ht : ∀ w, (Instr.typeAssert v 68 129 true).run Tryz.prog w = .ok (.tuple #[.nilIface, .bool false]) w) (R : Ending → World → Prop) (HP : Hid (R (.returned .nilIface) w)) :
    Calls Tryz.prog 63 #[v] w R := by
  have ht := ht w
  go_enter Tryz.func63, Tryz.ntmps63
  go_wp2_with fail
  exact HP

set_option maxHeartbeats 1000000 in
set_option maxRecDepth 100000 in
theorem errorsUnwrap_any (e : E) (v : Value) (w : World) (hv : EV 0 w e v) (he : e.In w) (hr : e.right = true) : Calls Tryz.prog 63 #[v] w (UnwG w e.unw) := by
  have hz : (e.k ≠ 3 ∧ e.k ≠ 8) → UnwG w e.unw (.returned .nilIface) w := fun h => by
    rw [unw_other h]
    exact ⟨_, rfl, .inr (.inr (.inr (.inr (.inr (.inr (.inr (.inr (.inr (.inr ⟨.inr rfl, rfl⟩))))))))), Below.refl _ _⟩
  unfold EV at hv
  rcases hv with ⟨a, rfl⟩ | ⟨a, g, b, rfl, d⟩ | ⟨a, g, b, rfl, d⟩ | ⟨a, g, b, rfl, d⟩ | ⟨a, g, b, rfl, d⟩ | ⟨a, rfl⟩ | ⟨a, rfl⟩ | ⟨a, g, b, rfl, d⟩ | ⟨a, g, b, rfl, d⟩ | ⟨a, rfl⟩ | ⟨a, rfl⟩
  · exact errorsUnwrap_no _ w (asU0 _ (by decide) _) _ (hz (by omega))
  · exact errorsUnwrap_no _ w (asU0 _ (by decide) _) _ (hz (by omega))
  · obtain ⟨x, hl⟩ := E.right_one hr a
    have hx0 : e.l[0]? = some x := by rw [hl]; rfl
    have hU := Lib.hid (unwrapW_any e x g w d he hx0)
    have hu : e.unw = x := by unfold E.unw; rw [if_pos (.inl a), hl]; rfl
    rw [hu]
    have HP : Hid (∀ v w', EV w.heap.size w' x v → Below w.heap.size w w' → UnwG w x (.returned v) w') := Lib.hid fun v w' h1 h2 => ⟨v, rfl, h1.mono (Nat.zero_le _), h2⟩
    have t4 := asU1 _ (.inl rfl) (.pointer (some ⟨g, 0, none⟩)) w
    have tm := methodW g
    generalize UnwG w x = R at *
    clear hz hr he hl hx0 d
    go_enter Tryz.func63, Tryz.ntmps63
    go_wp2_with fail
    refine hU.out.mono ?_
    rintro en w2 ⟨vx, rfl, hev2, hb2⟩
    have HF := Lib.hid (HP.out vx w2 hev2 hb2)
    clear hev2 hb2 HP hU t4 tm
    go_wp2_with fail
    exact HF
  · exact errorsUnwrap_no _ w (asU0 _ (by decide) _) _ (hz (by omega))
  · exact errorsUnwrap_no _ w (asU0 _ (by decide) _) _ (hz (by omega))
  · exact errorsUnwrap_no _ w (asU0 _ (by decide) _) _ (hz (by omega))
  · exact errorsUnwrap_no _ w (asU0 _ (by decide) _) _ (hz (by omega))
  · cases hl : e.l with
    | nil =>
      have hU := Lib.hid (unwrapL_none e g w d hl)
      have hu : e.unw = E.zero := by unfold E.unw; rw [if_pos (.inr a), hl]; rfl
      rw [hu]
      have HP : Hid (UnwG w E.zero (.returned .nilIface) w) := ⟨_, rfl, .inr (.inr (.inr (.inr (.inr (.inr (.inr (.inr (.inr (.inr ⟨.inr rfl, rfl⟩))))))))), Below.refl _ _⟩
      have t4 := asU1 _ (.inr rfl) (.pointer (some ⟨g, 0, none⟩)) w
      have tm := methodL g
      generalize UnwG w E.zero = R at *
      clear hz hr he hl d
      go_enter Tryz.func63, Tryz.ntmps63
      go_wp2_with fail
      refine hU.out.mono ?_
      rintro en w2 ⟨rfl, rfl⟩
      clear hU t4 tm
      go_wp2_with fail
      exact HP
    | cons x l =>
      have hx0 : e.l[0]? = some x := by rw [hl]; rfl
      have hU := Lib.hid (unwrapL_any e x g w d he hx0)
      have hu : e.unw = x := by unfold E.unw; rw [if_pos (.inr a), hl]; rfl
      rw [hu]
      have HP : Hid (∀ v w', EV w.heap.size w' x v → Below w.heap.size w w' → UnwG w x (.returned v) w') := Lib.hid fun v w' h1 h2 => ⟨v, rfl, h1.mono (Nat.zero_le _), h2⟩
      have t4 := asU1 _ (.inr rfl) (.pointer (some ⟨g, 0, none⟩)) w
      have tm := methodL g
      generalize UnwG w x = R at *
      clear hz hr he hl hx0 d
      go_enter Tryz.func63, Tryz.ntmps63
      go_wp2_with fail
      refine hU.out.mono ?_
      rintro en w2 ⟨vx, rfl, hev2, hb2⟩
      have HF := Lib.hid (HP.out vx w2 hev2 hb2)
      clear hev2 hb2 HP hU t4 tm
      go_wp2_with fail
      exact HF
  · exact errorsUnwrap_no _ w (asU0 _ (by decide) _) _ (hz (by omega))
  · exact errorsUnwrap_no _ w (asU0 _ (by decide) _) _ (hz (by omega))
  · exact errorsUnwrap_no _ w asUn _ (hz (by
      rcases a with a | a
      · constructor <;> (intro h; exact a (by rw [h]; exact ⟨by omega, by omega⟩))
      · omega))

/-! back -/
theorem asH1 (x : Value) (w : World) : (Instr.typeAssert (.iface 106 x) 68 72 true).run Tryz.prog w = .ok (.tuple #[.iface 106 x, .bool true]) w := by kernel_rfl
theorem asH2 (x : Value) (w : World) : (Instr.typeAssert (.iface 94 x) 68 72 true).run Tryz.prog w = .ok (.tuple #[.iface 94 x, .bool true]) w := by kernel_rfl
theorem asH3 (x : Value) (w : World) : (Instr.typeAssert (.iface 107 x) 68 72 true).run Tryz.prog w = .ok (.tuple #[.iface 107 x, .bool true]) w := by kernel_rfl
theorem asH4 (x : Value) (w : World) : (Instr.typeAssert (.iface 108 x) 68 72 true).run Tryz.prog w = .ok (.tuple #[.iface 108 x, .bool true]) w := by kernel_rfl
theorem asH5 (x : Value) (w : World) : (Instr.typeAssert (.iface 111 x) 68 72 true).run Tryz.prog w = .ok (.tuple #[.iface 111 x, .bool true]) w := by kernel_rfl
theorem asH6 (x : Value) (w : World) : (Instr.typeAssert (.iface 112 x) 68 72 true).run Tryz.prog w = .ok (.tuple #[.iface 112 x, .bool true]) w := by kernel_rfl
theorem asH8 (x : Value) (w : World) : (Instr.typeAssert (.iface 113 x) 68 72 true).run Tryz.prog w = .ok (.tuple #[.iface 113 x, .bool true]) w := by kernel_rfl
theorem asH9 (x : Value) (w : World) : (Instr.typeAssert (.iface 114 x) 68 72 true).run Tryz.prog w = .ok (.tuple #[.iface 114 x, .bool true]) w := by kernel_rfl
theorem asH10 (x : Value) (w : World) : (Instr.typeAssert (.iface 115 x) 68 72 true).run Tryz.prog w = .ok (.tuple #[.iface 115 x, .bool true]) w := by kernel_rfl
theorem asHn (w : World) : (Instr.typeAssert .nilIface 68 72 true).run Tryz.prog w = .ok (.tuple #[.nilIface, .bool false]) w := by kernel_rfl
theorem EV.asH {B : Nat} {w : World} {e : E} {v : Value} (hv : EV B w e v) (h0 : e.k ≠ 0) (hk : E.okK e.k) : ∀ w', (Instr.typeAssert v 68 72 true).run Tryz.prog w' = .ok (.tuple #[v, .bool true]) w' := by
  unfold EV at hv
  intro w'
  rcases hv with ⟨a, rfl⟩ | ⟨a, g, b, rfl, d⟩ | ⟨a, g, b, rfl, d⟩ | ⟨a, g, b, rfl, d⟩ | ⟨a, g, b, rfl, d⟩ | ⟨a, rfl⟩ | ⟨a, rfl⟩ | ⟨a, g, b, rfl, d⟩ | ⟨a, g, b, rfl, d⟩ | ⟨a, rfl⟩ | ⟨a, rfl⟩
  · exact asH1 _ w'
  · exact asH2 _ w'
  · exact asH3 _ w'
  · exact asH4 _ w'
  · exact asH5 _ w'
  · exact asH6 _ w'
  · exact asH2 _ w'
  · exact asH8 _ w'
  · exact asH9 _ w'
  · exact asH10 _ w'
  · exact absurd a (by rintro (a | a); exact a hk; exact h0 a)

theorem E.New.of_bare {x y : E} (h : x.bare = y.bare) {w : World} {en : Ending} {w' : World} (hn : E.New x w en w') : E.New y w en w' := by
  obtain ⟨x', h1, h2, h3, h4⟩ := hn
  exact ⟨x', h1, h2, h3.trans h, h4⟩
theorem E.zero_small : E.zero.Small := ⟨by simp [D.zero, D.size, D.sizeL], by simp, by simp, trivial⟩
theorem E.made_small (e : E) (h : e.Small) : e.made.Small := by
  have hz : D.zero.size ≤ 1000000 := by simp [D.zero, D.size, D.sizeL]
  unfold E.made
  split
  · exact ⟨hz, by simp, by simp, trivial⟩
  · split
    · refine ⟨hz, ?_, by simp, trivial⟩
      cases e; exact h.2.1
    · split
      · exact ⟨hz, by simp, by simp, trivial⟩
      · exact h
set_option maxHeartbeats 1000000 in
set_option maxRecDepth 100000 in
theorem back_nil (w : World) : Calls Tryz.prog 62 #[.nilIface] w (E.New E.zero w) := by
  have ht := asHn
  have HP : Hid (∀ w', Below w.heap.size w w' → E.New E.zero w (.returned (.agg #[.int .i64 0, .int .i64 0, .int .i64 0, .string ⟨#[]⟩, .int .i64 0, .int .i64 0, .int .u64 0, .string ⟨#[]⟩, .slice none 0 0, .slice none 0 0, .slice none 0 0])) w') := Lib.hid fun w' h =>
    ⟨E.zero, rfl, ⟨⟨by simp, by simp, by simp, by simp [ByteArray.size], by simp, by simp, by simp, by simp, by simp, by simp⟩, D.zero_in _, (fun q x hq => by simp at hq), trivial⟩, rfl, ⟨trivial, (fun h => absurd rfl h), trivial⟩, h⟩
  generalize E.New E.zero w = R at *
  go_enter Tryz.func62, Tryz.ntmps62
  go_wp2_with fail
  refine bodyPost_ret (v := .agg #[.int .i64 0, .int .i64 0, .int .i64 0, .string ⟨#[]⟩, .int .i64 0, .int .i64 0, .int .u64 0, .string ⟨#[]⟩, .slice none 0 0, .slice none 0 0, .slice none 0 0]) ?_ rfl (HP.out _ ?_)
  · simp [results, Tryz.results62, go_sem]
  · exact (Below.refl _ _).alloc (Nat.le_refl _) _

set_option maxHeartbeats 2000000 in
set_option maxRecDepth 100000 in
theorem back_any (e : E) (v : Value) (w : World) (hv : EV 0 w e v) (h0 : e.k ≠ 0) (he : e.In w) (hr : e.right = true) (hs : e.Small) : Calls Tryz.prog 62 #[v] w (E.New e w) := by
  have hok := E.right_ok hr
  have hA := hv.asH h0 hok
  obtain ⟨T, y, fm, rfl, hTA, hM, hcf, hC⟩ := hv.holds h0 hok
  have Hc1 : Hid (∀ W, Below w.heap.size w W → Calls Tryz.prog fm #[y] W (Ret e.made.v W)) := hC
  have Hc2 : Hid (∀ W, Below w.heap.size w W → Calls Tryz.prog 61 #[e.made.v] W (E.New e W)) := Lib.hid fun W h => (clone_any e.made.size e.made W (Nat.le_refl _) (E.made_small e hs) (E.made_in (he.below h))).mono fun en w' hn => hn.of_bare (E.made_bare e hr)
  clear hTA hC hv hok he hr hs
  simp only [E.v, E.cs] at Hc1 Hc2
  generalize e.made.k = g0, e.made.id = g1, e.made.code = g2, e.made.t = g3, e.made.body.k = g4, e.made.body.i = g5, e.made.body.b = g6, e.made.body.t = g7, e.made.body.A = g8, e.made.body.l.length = g9, e.made.body.c = g10, e.made.cA = g11, e.made.codes.length = g12, e.made.cc = g13, e.made.A = gA, e.made.l.length = gl, e.made.c = gc at *
  have hal : Hid (∀ W, W = w.alloc (.cells #[.int .i64 0, .int .i64 0, .int .i64 0, .string ⟨#[]⟩, .int .i64 0, .int .i64 0, .int .u64 0, .string ⟨#[]⟩, .slice none 0 0, .slice none 0 0, .slice none 0 0] 29) → Blk W w.heap.size 29 #[.int .i64 0, .int .i64 0, .int .i64 0, .string ⟨#[]⟩, .int .i64 0, .int .i64 0, .int .u64 0, .string ⟨#[]⟩, .slice none 0 0, .slice none 0 0, .slice none 0 0] ∧ Below w.heap.size w W) := Lib.hid fun W h => by
    subst h
    exact ⟨Blk.new _ _ _, (Below.refl _ _).alloc (Nat.le_refl _) _⟩
  go_enter Tryz.func62, Tryz.ntmps62
  go_wp2_with fail
  obtain ⟨z1, z2⟩ := hal.out _ rfl
  generalize w.alloc _ = W at *
  refine (Hc1.out _ z2).mono ?_
  rintro en w1 ⟨rfl, hb1⟩
  have H1 : Hid (Below w.heap.size w w1 ∧ Blk w1 w.heap.size 29 #[.int .i64 0, .int .i64 0, .int .i64 0, .string ⟨#[]⟩, .int .i64 0, .int .i64 0, .int .u64 0, .string ⟨#[]⟩, .slice none 0 0, .slice none 0 0, .slice none 0 0]) := ⟨z2.trans (hb1.mono z2.size), z1.below hb1 z1.lt⟩
  clear z1 z2 hb1 hal hA hM hcf Hc1
  go_wp2_with fail
  refine (Hc2.out _ H1.out.1).mono ?_
  rintro en w2 ⟨x', rfl, k1, k2, k3, k4⟩
  have B2 := H1.out.2.below k4 H1.out.2.lt
  have Hz : Hid (w.heap.size < w1.heap.size) := H1.out.2.lt
  have HF : Hid (∀ w3, (∀ k, w1.heap.size ≤ k → w3.heap[k]? = w2.heap[k]?) → Below w.heap.size w w3 → E.New e w (.returned x'.v) w3) := Lib.hid fun w3 h1 h2 =>
    ⟨x', rfl, k1.turn (P := (w1.heap.size ≤ ·)) h1 k3, k2, k3.mono fun g hg => Nat.le_trans (Nat.le_of_lt Hz.out) hg, h2⟩
  have Hb := Lib.hid (H1.out.1.trans (k4.mono H1.out.1.size))
  have d0 := B2.cell 0
  have d1 := B2.cell 1
  have d2 := B2.cell 2
  have d3 := B2.cell 3
  have d4 := B2.cell 4
  have d5 := B2.cell 5
  have d6 := B2.cell 6
  have d7 := B2.cell 7
  have d8 := B2.cell 8
  have d9 := B2.cell 9
  have d10 := B2.cell 10
  have e0 := B2.frozen 0
  have e1 := B2.frozen 1
  have e2 := B2.frozen 2
  have e3 := B2.frozen 3
  have e4 := B2.frozen 4
  have e5 := B2.frozen 5
  have e6 := B2.frozen 6
  have e7 := B2.frozen 7
  have e8 := B2.frozen 8
  have e9 := B2.frozen 9
  have e10 := B2.frozen 10
  simp at d0 d1 d2 d3 d4 d5 d6 d7 d8 d9 d10
  simp only [E.v, E.cs] at HF ⊢
  clear B2 k1 k2 k3 k4 H1 Hc2
  generalize x'.k = f0, x'.id = f1, x'.code = f2, x'.t = f3, x'.body.k = f4, x'.body.i = f5, x'.body.b = f6, x'.body.t = f7, x'.body.A = f8, x'.body.l.length = f9, x'.body.c = f10, x'.cA = f11, x'.codes.length = f12, x'.cc = f13, x'.A = fA, x'.l.length = fl, x'.c = fc at *
  go_wp2_with fail
  refine bodyPost_ret (v := .agg #[.int .i64 f0, .int .i64 f1, .int .i64 f2, .string f3, .int .i64 f4, .int .i64 f5, .int .u64 f6, .string f7, .slice f8 f9 f10, .slice f11 f12 f13, .slice fA fl fc]) ?_ rfl (HF.out _ ?_ ?_)
  · simp [results, Tryz.results62, go_sem, d0, d1, d2, d3, d4, d5, d6, d7, d8, d9, d10]
  · intro k hk
    have := Hz.out
    repeat rw [Below.heap_setCell _ _ _ _ (by show k ≠ w.heap.size; omega)]
  · iterate 11 refine Below.setCell ?_ (by simp) _
    exact Hb.out

set_option maxHeartbeats 2000000 in
set_option maxRecDepth 100000 in
theorem errsUnwrap_any (e : E) (w : World) (he : e.In w) (hr : e.right = true) (hs : e.Small) : Calls Tryz.prog 25 #[e.v] w (E.New e.unw w) := by
  have hv := Lib.hid (fun w => valueE_any e w)
  have Hu : Hid (∀ v W, Below w.heap.size w W → EV 0 W e v → Calls Tryz.prog 63 #[v] W (UnwG W e.unw)) := Lib.hid fun v W h1 h2 => errorsUnwrap_any e v W h2 (he.below h1) hr
  have hux : e.unw = E.zero ∨ (e.unw.In w ∧ e.unw.right = true ∧ e.unw.Small ∧ e.unw.k ≠ 0) := by
    unfold E.unw
    by_cases h : e.k = 3 ∨ e.k = 8
    · rw [if_pos h]
      cases hl : e.l with
      | nil => exact .inl rfl
      | cons x l =>
        have hx0 : e.l[0]? = some x := by rw [hl]; rfl
        have hxr := E.rightL_at (E.right_list hr) hx0
        refine .inr ⟨(he.at_ hx0).2, hxr.2, ?_, ?_⟩
        · have : E.SmallL e.l := by cases e; exact hs.2.2.2
          exact this.at_ hx0
        · rcases hxr.1 with a | a
          · omega
          · exact a
    · rw [if_neg h]; exact .inl rfl
  have Hb : Hid (∀ v W, Below w.heap.size w W → EV 0 W e.unw v → Calls Tryz.prog 62 #[v] W (E.New e.unw W)) := Lib.hid fun v W h1 h2 => by
    rcases hux with h | ⟨h3, h4, h5, h6⟩
    · rw [h] at h2 ⊢
      have hvn : v = .nilIface := by
        unfold EV at h2
        have hk : E.zero.k = 0 := rfl
        rcases h2 with ⟨a, _⟩ | ⟨a, _⟩ | ⟨a, _⟩ | ⟨a, _⟩ | ⟨a, _⟩ | ⟨a, _⟩ | ⟨a, _⟩ | ⟨a, _⟩ | ⟨a, _⟩ | ⟨a, _⟩ | ⟨_, a⟩
        all_goals first | exact a | (rw [hk] at a; omega)
      subst hvn
      exact back_nil W
    · exact back_any e.unw v W h2 h6 (h3.below h1) h4 h5
  have hW : Hid (∀ W, W = ((w.alloc (.cells e.cs.toArray 29)).alloc (.cells #[.int .i64 0, .int .i64 0, .int .i64 0, .string ⟨#[]⟩, .int .i64 0, .int .i64 0, .int .u64 0, .string ⟨#[]⟩, .slice none 0 0, .slice none 0 0, .slice none 0 0] 29)) →
      Blk W (w.heap.size + 1) 29 #[.int .i64 0, .int .i64 0, .int .i64 0, .string ⟨#[]⟩, .int .i64 0, .int .i64 0, .int .u64 0, .string ⟨#[]⟩, .slice none 0 0, .slice none 0 0, .slice none 0 0] ∧ Below w.heap.size w W) := Lib.hid fun W h => by
    subst h
    exact ⟨Blk.new' (by simp) _ _, two_alloc _ _ _⟩
  clear he hr hs hux
  generalize e.unw = z at *
  unfold ValueE at hv
  simp only [E.v, E.cs] at hW hv ⊢
  go_enter Tryz.func25, Tryz.ntmps25
  go_wp2_with fail
  obtain ⟨z1, z2⟩ := hW.out _ rfl
  generalize (w.alloc _).alloc _ = W at *
  refine (hv.out _).mono ?_
  rintro en w1 ⟨v, rfl, hev, hb⟩
  have H1 : Hid (Below w.heap.size w w1 ∧ Blk w1 (w.heap.size + 1) 29 #[.int .i64 0, .int .i64 0, .int .i64 0, .string ⟨#[]⟩, .int .i64 0, .int .i64 0, .int .u64 0, .string ⟨#[]⟩, .slice none 0 0, .slice none 0 0, .slice none 0 0] ∧ EV 0 w1 e v) := ⟨z2.trans (hb.mono z2.size), z1.below hb z1.lt, hev.mono (Nat.zero_le _)⟩
  clear z1 z2 hb hW hev hv
  go_wp2_with fail
  refine (Hu.out v _ H1.out.1 H1.out.2.2).mono ?_
  rintro en w2 ⟨v2, rfl, hev2, hb2⟩
  have H2 : Hid (Below w.heap.size w w2 ∧ Blk w2 (w.heap.size + 1) 29 #[.int .i64 0, .int .i64 0, .int .i64 0, .string ⟨#[]⟩, .int .i64 0, .int .i64 0, .int .u64 0, .string ⟨#[]⟩, .slice none 0 0, .slice none 0 0, .slice none 0 0] ∧ EV 0 w2 z v2) := ⟨H1.out.1.trans (hb2.mono H1.out.1.size), H1.out.2.1.below hb2 H1.out.2.1.lt, hev2⟩
  clear hev2 hb2 H1 Hu
  go_wp2_with fail
  refine (Hb.out v2 _ H2.out.1 H2.out.2.2).mono ?_
  rintro en w3 ⟨x', rfl, k1, k2, k3, k4⟩
  have B2 := H2.out.2.1.below k4 H2.out.2.1.lt
  have Hz : Hid (w.heap.size + 1 < w2.heap.size) := H2.out.2.1.lt
  have HF : Hid (∀ w4, (∀ k, w2.heap.size ≤ k → w4.heap[k]? = w3.heap[k]?) → Below w.heap.size w w4 → E.New z w (.returned x'.v) w4) := Lib.hid fun w4 h1 h2 =>
    ⟨x', rfl, k1.turn (P := (w2.heap.size ≤ ·)) h1 k3, k2, k3.mono fun g hg => by have := Hz.out; omega, h2⟩
  have Hb := Lib.hid (H2.out.1.trans (k4.mono H2.out.1.size))
  have d0 := B2.cell 0
  have d1 := B2.cell 1
  have d2 := B2.cell 2
  have d3 := B2.cell 3
  have d4 := B2.cell 4
  have d5 := B2.cell 5
  have d6 := B2.cell 6
  have d7 := B2.cell 7
  have d8 := B2.cell 8
  have d9 := B2.cell 9
  have d10 := B2.cell 10
  have e0 := B2.frozen 0
  have e1 := B2.frozen 1
  have e2 := B2.frozen 2
  have e3 := B2.frozen 3
  have e4 := B2.frozen 4
  have e5 := B2.frozen 5
  have e6 := B2.frozen 6
  have e7 := B2.frozen 7
  have e8 := B2.frozen 8
  have e9 := B2.frozen 9
  have e10 := B2.frozen 10
  simp at d0 d1 d2 d3 d4 d5 d6 d7 d8 d9 d10
  simp only [E.v, E.cs] at HF ⊢
  clear B2 k1 k2 k3 k4 H2
  generalize x'.k = f0, x'.id = f1, x'.code = f2, x'.t = f3, x'.body.k = f4, x'.body.i = f5, x'.body.b = f6, x'.body.t = f7, x'.body.A = f8, x'.body.l.length = f9, x'.body.c = f10, x'.cA = f11, x'.codes.length = f12, x'.cc = f13, x'.A = fA, x'.l.length = fl, x'.c = fc at *
  go_wp2_with fail
  refine bodyPost_ret (v := .agg #[.int .i64 f0, .int .i64 f1, .int .i64 f2, .string f3, .int .i64 f4, .int .i64 f5, .int .u64 f6, .string f7, .slice f8 f9 f10, .slice f11 f12 f13, .slice fA fl fc]) ?_ rfl (HF.out _ ?_ ?_)
  · simp [results, Tryz.results25, go_sem, d0, d1, d2, d3, d4, d5, d6, d7, d8, d9, d10]
  · intro k hk
    have := Hz.out
    repeat rw [Below.heap_setCell _ _ _ _ (by show k ≠ w.heap.size + 1; omega)]
  · iterate 11 refine Below.setCell ?_ (Nat.le_succ _) _
    exact Hb.out
end Go.Proofs.YtbhmeapnmpgggaaGreatDoor
