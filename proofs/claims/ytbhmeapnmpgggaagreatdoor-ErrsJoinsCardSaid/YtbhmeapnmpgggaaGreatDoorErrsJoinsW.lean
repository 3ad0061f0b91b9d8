/- Plain: Is of a joined error goes through its parts. No program. -/
import Derived.Test.YtbhmeapnmpgggaaGreatDoorJoin0
import Derived.Test.YtbhmeapnmpgggaaGreatDoorWalkR
import Derived.Test.YtbhmeapnmpgggaaGreatDoorErrsUnwrapsW
namespace Go.Proofs.YtbhmeapnmpgggaaGreatDoor.errsJoins
open Go.RowKit Go.Joins errsUnwraps

theorem saysC_bare (e t : E) : e.bare.saysC t = e.saysC t := by unfold E.saysC; rw [E.bare_codes]
mutual
theorem ris_bare (t : E) : ∀ e : E, E.ris D.req t e.bare = E.ris D.req t e
  | .mk k id code tt body cA cc codes A c l => by
    have h1 := E.eqr_bare (.mk k id code tt body cA cc codes A c l) t
    have h2 := saysC_bare (.mk k id code tt body cA cc codes A c l) t
    rw [E.bare] at h1 h2 ⊢
    rw [E.ris, E.ris, h1, h2, risL_bare t l]
theorem risL_bare (t : E) : ∀ l : List E, E.risL D.req t (E.bareL l) = E.risL D.req t l
  | [] => rfl
  | x :: l => by rw [E.bareL, E.risL, E.risL, ris_bare t x, risL_bare t l]
end
theorem ris_of {t a b : E} (h : a.bare = b.bare) : E.ris D.req t a = E.ris D.req t b := by rw [← ris_bare, h, ris_bare]
theorem risL_of {t : E} {a b : List E} (h : E.bareL a = E.bareL b) : E.risL D.req t a = E.risL D.req t b := by rw [← risL_bare, h, risL_bare]
theorem risL_some (t : E) : ∀ l : List E, E.risL D.req t (E.some_ l) = E.risL D.req t l
  | [] => rfl
  | x :: l => by
    unfold E.some_
    rw [List.filter_cons]
    by_cases hk : x.k = 0
    · have hx : E.ris D.req t x = (false, false) := by rw [E.ris_eq, if_pos hk]
      rw [if_neg (by simp [hk]), E.risL, hx]
      exact risL_some t l
    · rw [if_pos (by simpa using hk), E.risL, E.risL]
      have := risL_some t l
      unfold E.some_ at this
      rw [this]
/-- Is of what was joined -/
theorem isR_joined {l : List E} {id : Int} {J t : E} (hJ : J.bare = (E.joined l id).bare) (h0 : J.k ≠ 0) (ht : t.k ≠ 0) (hn : ¬ (t.k = 4 ∧ t.id = id)) : E.isR D.req J t = E.risL D.req t l := by
  have hj : E.some_ l ≠ [] := fun h => by
    unfold E.joined at hJ
    rw [if_pos h] at hJ
    exact h0 (by rw [E.k_of hJ]; rfl)
  unfold E.joined at hJ
  rw [if_neg hj] at hJ
  unfold E.isR
  rw [if_neg (by omega), isr_ris D.req t (fun e => eqr_snd e t), ris_of hJ, E.ris, if_neg (by omega)]
  have hq : E.eqr D.req (.mk 4 id 0 ⟨#[]⟩ D.zero none 0 [] none 0 (E.some_ l)) t = (false, false) := by
    by_cases h4 : t.k = 4
    · have hid : ¬ id = t.id := fun e => hn ⟨h4, e.symm⟩
      have n1 : ¬ ((E.mk 4 id 0 ⟨#[]⟩ D.zero none 0 [] none 0 (E.some_ l)).k = 1 ∨ (E.mk 4 id 0 ⟨#[]⟩ D.zero none 0 [] none 0 (E.some_ l)).k = 10) := by
        simp
      have n5 : ¬ (E.mk 4 id 0 ⟨#[]⟩ D.zero none 0 [] none 0 (E.some_ l)).k = 5 := by simp
      have n6 : ¬ (E.mk 4 id 0 ⟨#[]⟩ D.zero none 0 [] none 0 (E.some_ l)).k = 6 := by simp
      have ni : ¬ (E.mk 4 id 0 ⟨#[]⟩ D.zero none 0 [] none 0 (E.some_ l)).id = t.id := hid
      unfold E.eqr
      rw [if_neg (fun h => h h4.symm), if_neg n1, if_neg n5, if_neg n6, decide_eq_false ni]
    · exact if_pos (fun h => h4 h.symm)
  rw [hq, if_neg (by simp), if_neg (by simp), risL_some]
theorem isR_one {x t : E} (h0 : x.k ≠ 0) (ht : t.k ≠ 0) : E.isR D.req x t = E.ris D.req t x := by
  unfold E.isR
  rw [if_neg (by omega), isr_ris D.req t (fun e => eqr_snd e t)]
/-- how many ways there are in the first ones, one more for each -/
def nways : List E → Nat
  | [] => 0
  | x :: l => x.ways.length + 1 + nways l
theorem nways_le : ∀ l : List E, l.length ≤ nways l
  | [] => Nat.le_refl _
  | x :: l => by have := nways_le l; rw [nways, List.length_cons]; omega
theorem nways_take : ∀ (l : List E) (j : Nat) (x : E), l[j]? = some x → nways (l.take (j + 1)) = nways (l.take j) + x.ways.length + 1
  | [], j, x, h => by simp at h
  | y :: l, 0, x, h => by
    have : y = x := by simpa using h
    subst this
    simp [nways]
  | y :: l, j + 1, x, h => by
    have := nways_take l j x (by simpa using h)
    rw [List.take_succ_cons, List.take_succ_cons, nways, nways, this]
    omega
end Go.Proofs.YtbhmeapnmpgggaaGreatDoor.errsJoins
/- ErrsJoins: the law's walk. Conditions: the errors lie in the world; the sentinel's variable holds a pointer. -/
namespace Go.Proofs.YtbhmeapnmpgggaaGreatDoor.errsJoins
open Go.RowKit Go.Joins errsUnwraps errsCompares

/-- what holds at the head of the first loop's rounds -/
structure J1 (w : World) (t : E) (l : List E) (j : Nat) (wr : World) : Prop where
  below : Below w.heap.size w wr
  b0 : Blk wr w.heap.size 29 t.cs.toArray
  ok : ∀ (q : Nat) (x : E), q < j → l[q]? = some x → x.Ok
  le : nways (l.take j) ≤ 16384
theorem J1.to {w : World} {t : E} {l : List E} {j : Nat} {wr w' : World} (h : J1 w t l j wr) (hb : Below wr.heap.size wr w') : J1 w t l j w' :=
  ⟨h.below.trans (hb.mono h.below.size), h.b0.to hb, h.ok, h.le⟩
theorem J1.next {w : World} {t : E} {l : List E} {j : Nat} {wr w' : World} {x : E} (h : J1 w t l j wr) (hx : l[j]? = some x) (hok : x.Ok) (hn : nways (l.take j) + x.ways.length + 1 ≤ 16384) (hb : Below wr.heap.size wr w') : J1 w t l (j + 1) w' := by
  refine ⟨h.below.trans (hb.mono h.below.size), h.b0.to hb, fun q y hq hy => ?_, by rw [nways_take l j x hx]; exact hn⟩
  by_cases hqj : q = j
  · subst hqj
    rw [hx] at hy
    injection hy with hy
    subst hy
    exact hok
  · exact h.ok q y (by omega) hy

set_option maxHeartbeats 4000000 in
set_option maxRecDepth 100000 in
theorem law (u : Addr) (l : List E) (A : Option Addr) (c : Nat) (id : Int) (t : E) (w : World) (hl : E.InL w A 0 l) (hc : l.length ≤ c ∧ c ≤ 9223372036854775807) (hid : -9223372036854775808 ≤ id ∧ id ≤ 9223372036854775807) (ht : t.In w) (hs : Sen u w) :
    Calls Tryz.prog 5 #[.slice A l.length c, .int .i64 id, t.v] w (Ret (.bool true) w) := by
  have hA := Lib.hid (fun W (h : Below w.heap.size w W) => awakeE_any u W (hs.below h))
  have HEl : Hid (∀ (q : Nat) (x : E), l[q]? = some x → (∃ ad, A = some ad ∧ At w (ad.add (q * 11)) x.cs) ∧ x.In w) := Lib.hid fun q x h => hl.at0 h
  have HI := Lib.hid (And.intro hl (And.intro ht (And.intro hs hid)))
  have HP : Hid (∀ w', Below w.heap.size w w' → Ret (.bool true) w (.returned (.bool true)) w') := Lib.hid fun w' h => ⟨rfl, h⟩
  have hW : ∀ W, W = w.alloc (.cells t.cs.toArray 29) → J1 w t l 0 W := fun W h => by
    subst h
    exact ⟨(Below.refl _ _).alloc (Nat.le_refl _) _, Blk.new _ _ _, (fun q x hq => by omega), by simp [nways]⟩
  obtain ⟨hc1, hc2⟩ := hc
  have HW := Lib.hid hW
  clear hW hl ht hs hid
  simp only [E.v, E.cs] at HW ⊢
  generalize Ret (.bool true) w = R at *
  go_enter Tryz.func5, Tryz.ntmps5
  go_wp2_with fail
  have HW0 := Lib.hid (HW.out _ rfl)
  clear HW
  generalize w.alloc _ = W0 at *
  go_loopg [7, 17] l.length (fun gk nn i wr => ∃ j : Nat, i = .int .i64 j ∧ nn = .int .i64 (nways (l.take j) : Nat) ∧ j + gk = l.length ∧ Hid (J1 w t l j wr))
  case atStart => exact ⟨0, rfl, rfl, by omega, HW0⟩
  case round =>
    clear HW0
    obtain ⟨j, rfl, rfl, hj, hJ⟩ := hrel
    by_cases hlt : j < l.length
    · obtain ⟨x, ex⟩ : ∃ x, l[j]? = some x := ⟨_, List.getElem?_eq_getElem hlt⟩
      obtain ⟨⟨ad, rfl, h1⟩, hx⟩ := HEl.out j x ex
      obtain ⟨p0, p1, p2, p3, p4, p5, p6, p7, p8, p9, p10⟩ := (h1.below hJ.out.below).eleven
      have Hv := Lib.hid (validE1_any x wr (hx.below hJ.out.below))
      have HX := Lib.hid hx
      have Hex := Lib.hid ex
      have Hok : Hid (x.valid1 = true → x.Ok) := Lib.hid (E.valid1_iff x).1
      have hnl := hJ.out.le
      have Hle := Lib.hid hnl
      clear h1 hx ex
      generalize x.valid1 = vx at *
      generalize hN : nways (l.take j) = N at *
      have HN := Lib.hid hN
      clear hN Hle
      simp only [E.v, E.cs] at Hv
      go_wp2_with fail
      refine Hv.out.mono ?_
      rintro en w1 ⟨rfl, hb⟩
      have H1 := Lib.hid (hJ.out.to hb)
      have Hb1 := Lib.hid hb
      cases vx
      · clear p0 p1 p2 p3 p4 p5 p6 p7 p8 p9 p10 hb Hv hJ hnl
        go_wp2_with fail
        refine (hA.out _ H1.out.below).mono ?_
        rintro en wz ⟨rfl, hbz⟩
        have Hf := Lib.hid (HP.out _ (Below.trans H1.out.below (hbz.mono (Below.size H1.out.below))))
        clear hbz
        go_wp2_with fail
        exact Hf
      · obtain ⟨⟨ad', he, h1'⟩, _⟩ := HEl.out j x Hex.out
        injection he with he
        subst he
        clear p0 p1 p2 p3 p4 p5 p6 p7 p8 p9 p10 Hv
        obtain ⟨p0, p1, p2, p3, p4, p5, p6, p7, p8, p9, p10⟩ := (h1'.below H1.out.below).eleven
        have hxo := Hok.out rfl
        have Hw := Lib.hid (walkR_any x.size x w1 (Nat.le_refl _) (by have := hxo.2.1; omega) (HX.out.below H1.out.below))
        have Hwl := Lib.hid (E.ways_len x)
        have Hxo := Lib.hid hxo
        have hwl2 : x.ways.length ≤ 4096 := Nat.le_trans (E.ways_len x) hxo.2.1
        have Hnx : Hid (N + x.ways.length + 1 ≤ 16384 → ∀ w2, Below w1.heap.size w1 w2 → J1 w t l (j + 1) w2) := Lib.hid fun h w2 hb2 => hJ.out.next Hex.out hxo (by rw [HN.out]; exact h) (hb.trans (hb2.mono hb.size))
        have HN2 : Hid (nways (l.take (j + 1)) = N + x.ways.length + 1) := by
          have := nways_take l j x Hex.out
          rw [HN.out] at this
          exact this
        clear hb hxo h1' hJ Hok
        simp only [E.v, E.cs] at Hw
        unfold WaysG at Hw
        generalize x.ways = wsx at *
        go_wp2_with fail
        refine Hw.out.mono ?_
        rintro en w2 ⟨sw, rfl, hrow, hb2⟩
        obtain ⟨Aw, cw, rfl, hcw1, hcw2⟩ := hrow.form
        have H2 := Lib.hid (H1.out.to hb2)
        have Hb2 := Lib.hid hb2
        clear hrow hb2 p0 p1 p2 p3 p4 p5 p6 p7 p8 p9 p10 Hw H1
        generalize wsx.length = M at *
        by_cases hgt : (16384 : Int) < (N : Int) + (M : Int) + 1
        · go_wp2_with fail
          refine (hA.out _ H2.out.below).mono ?_
          rintro en wz ⟨rfl, hbz⟩
          have Hf := Lib.hid (HP.out _ (Below.trans H2.out.below (hbz.mono (Below.size H2.out.below))))
          clear hbz
          go_wp2_with fail
          exact Hf
        · have hgt' : decide ((N : Int) + (M : Int) + 1 > 16384) = false := by simp; omega
          have HJn := Lib.hid (Hnx.out (by omega) w2 Hb2.out)
          clear Hnx Hb2 H2
          go_wp2_with fail
          go_roundg (gk - 1)
          case measure => omega
          case rel =>
            refine ⟨j + 1, by go_num, ?_, by omega, HJn⟩
            rw [HN2.out]
            go_num
    · obtain rfl : j = l.length := by omega
      have hJ2 := hJ.out
      have hnl := hJ2.le
      rw [List.take_length] at hnl
      have hll : l.length ≤ 16384 := Nat.le_trans (nways_le l) hnl
      have Hok : Hid (∀ (q : Nat) (x : E), l[q]? = some x → x.Ok) := Lib.hid fun q x h => hJ2.ok q x (List.getElem?_eq_some_iff.1 h).1 h
      have HB0 := Lib.hid (And.intro hJ2.below hJ2.b0)
      clear hnl hJ2 hJ
      generalize nways _ = NN
      have b0 := HB0.out.2
      have d0 := b0.cell 0
      have d1 := b0.cell 1
      have d2 := b0.cell 2
      have d3 := b0.cell 3
      have d4 := b0.cell 4
      have d5 := b0.cell 5
      have d6 := b0.cell 6
      have d7 := b0.cell 7
      have d8 := b0.cell 8
      have d9 := b0.cell 9
      have d10 := b0.cell 10
      simp [E.cs] at d0 d1 d2 d3 d4 d5 d6 d7 d8 d9 d10
      clear b0
      by_cases hid1 : id < 1
      · have hidb : decide (id < 1) = true := by simpa using hid1
        clear hid1
        go_wp2_with fail
        refine (hA.out _ HB0.out.1).mono ?_
        rintro en wz ⟨rfl, hbz⟩
        have Hf := Lib.hid (HP.out _ (Below.trans HB0.out.1 (hbz.mono (Below.size HB0.out.1))))
        clear hbz
        go_wp2_with fail
        exact Hf
      have hidb : decide (id < 1) = false := by simpa using hid1
      have hid2 : 1 ≤ id := by omega
      clear hid1
      have Hvt := Lib.hid (validE1_any t wr (HI.out.2.1.below HB0.out.1))
      have Htok : Hid (t.valid1 = true → t.Ok) := Lib.hid (E.valid1_iff t).1
      generalize t.valid1 = vt at *
      simp only [E.v, E.cs] at Hvt
      go_wp2_with fail
      refine Hvt.out.mono ?_
      rintro en w1 ⟨rfl, hb⟩
      have HB1 : Hid (Below w.heap.size w w1 ∧ Blk w1 w.heap.size 29 t.cs.toArray) := ⟨HB0.out.1.trans (hb.mono HB0.out.1.size), HB0.out.2.to hb⟩
      clear hb d0 d1 d2 d3 d4 d5 d6 d7 d8 d9 d10 HB0 Hvt
      cases vt
      · go_wp2_with fail
        refine (hA.out _ HB1.out.1).mono ?_
        rintro en wz ⟨rfl, hbz⟩
        have Hf := Lib.hid (HP.out _ (Below.trans HB1.out.1 (hbz.mono (Below.size HB1.out.1))))
        clear hbz
        go_wp2_with fail
        exact Hf
      have HT := Lib.hid (Htok.out rfl)
      clear Htok
      have Hj0 : Hid (∀ W, Below w.heap.size w W → Calls Tryz.prog 23 #[.slice A l.length c, .int .i64 id] W (E.New (E.joined l id) W)) := Lib.hid fun W h =>
        join0_any l A c id W (E.InL.below' (B := w.heap.size) h HI.out.1 (E.InL.lo HI.out.1)) (by omega) ⟨hc1, hc2⟩ (fun q x hx => ⟨E.ok_of_small (Hok.out q x hx), (Hok.out q x hx).2.2.2⟩) HI.out.2.2.2
      have Hj1 : Hid (∀ W, Below w.heap.size w W → Calls Tryz.prog 24 #[.slice A l.length c, .int .i64 id] W (E.New (E.joined l id) W)) := Lib.hid fun W h =>
        join1_any l A c id W (E.InL.below' (B := w.heap.size) h HI.out.1 (E.InL.lo HI.out.1)) (by omega) ⟨hc1, hc2⟩ (fun q x hx => E.ok_of_small (Hok.out q x hx)) HI.out.2.2.2
      go_wp2_with fail
      refine (Hj0.out _ HB1.out.1).mono ?_
      rintro en w2 ⟨J, rfl, k1, k2, k3, k4⟩
      have HB2 : Hid (Below w.heap.size w w2 ∧ Blk w2 w.heap.size 29 t.cs.toArray ∧ J.In w2) := ⟨HB1.out.1.trans (k4.mono HB1.out.1.size), HB1.out.2.to k4, k1⟩
      have HJb := Lib.hid k2
      clear k1 k2 k3 k4 HB1 Hj0
      have hW3 : ∀ W, W = w2.alloc (.cells J.cs.toArray 29) → Below w.heap.size w W ∧ Blk W w.heap.size 29 t.cs.toArray ∧ J.In W ∧ Blk W w2.heap.size 29 J.cs.toArray := fun W h => by
        subst h
        have hal := (Below.refl w2.heap.size w2).alloc (Nat.le_refl _) (.cells J.cs.toArray 29)
        exact ⟨HB2.out.1.trans (hal.mono HB2.out.1.size), HB2.out.2.1.to hal, HB2.out.2.2.below hal, Blk.new _ _ _⟩
      simp only [E.cs] at hW3
      have HW3 := Lib.hid hW3
      clear hW3
      simp only [E.v, E.cs]
      go_wp2_with fail
      have HB3 := Lib.hid (HW3.out _ rfl)
      clear HW3 HB2
      generalize w2.alloc _ = W3 at *
      have uE := Tryz.underlying29
      refine wp_region_eachC (by kernel_rfl) (by kernel_rfl) (fun done a w' => ∃ x51 x52 x53 x54 x55 x56, a = ⟨#[Value.slice A l.length c, Value.int IntKind.i64 id, Value.agg #[Value.int IntKind.i64 t.k, Value.int IntKind.i64 t.id, Value.int IntKind.i64 t.code, Value.string t.t, Value.int IntKind.i64 t.body.k, Value.int IntKind.i64 t.body.i, Value.int IntKind.u64 t.body.b, Value.string t.body.t, Value.slice t.body.A t.body.l.length t.body.c, Value.slice t.cA t.codes.length t.cc, Value.slice t.A t.l.length t.c], undef, undef, Value.pointer (some ⟨w.heap.size, 0, none⟩), u6, Value.int IntKind.i64 ↑NN, u8, Value.pointer (some ⟨w2.heap.size, 0, none⟩), undef, undef, undef, undef, undef, Value.slice A l.length c, Value.int IntKind.i64 ↑l.length, Value.int IntKind.i64 ↑l.length, Value.bool false, u19, u20, u21, u22, u23, u24, u25, u26, u27, u28, u29, u30, u31, u32, u33, u34, u35, u36, u37, u38, u39, Value.int IntKind.i64 id, Value.bool false, Value.bool false, Value.agg #[Value.int IntKind.i64 t.k, Value.int IntKind.i64 t.id, Value.int IntKind.i64 t.code, Value.string t.t, Value.int IntKind.i64 t.body.k, Value.int IntKind.i64 t.body.i, Value.int IntKind.u64 t.body.b, Value.string t.body.t, Value.slice t.body.A t.body.l.length t.body.c, Value.slice t.cA t.codes.length t.cc, Value.slice t.A t.l.length t.c], Value.bool true, Value.bool false, Value.bool false, undef, Value.slice A l.length c, Value.int IntKind.i64 id, Value.agg #[Value.int IntKind.i64 J.k, Value.int IntKind.i64 J.id, Value.int IntKind.i64 J.code, Value.string J.t, Value.int IntKind.i64 J.body.k, Value.int IntKind.i64 J.body.i, Value.int IntKind.u64 J.body.b, Value.string J.body.t, Value.slice J.body.A J.body.l.length J.body.c, Value.slice J.cA J.codes.length J.cc, Value.slice J.A J.l.length J.c], x51, x52, x53, x54, x55, x56, undef, undef, undef, undef, undef, undef, undef, undef, undef, undef, undef, undef, undef, undef, undef, undef, undef, undef, undef, undef, undef, undef, undef, undef, undef, undef, undef, undef, undef, undef, undef, undef, undef, undef, undef, undef, undef, undef, undef, undef, undef, undef, undef, undef, undef, undef, undef, undef, undef, undef, undef, undef, undef, undef, undef, undef, undef, undef, undef, undef, undef, undef, undef, undef, undef, undef, undef], []⟩ ∧ (Below W3.heap.size W3 w' ∧ (done 3 = true → ∃ J2 : E, x54 = J2.v ∧ J2.In w' ∧ J2.bare = (E.joined l id).bare)) ∧ (done 0 = true → x51 = Value.agg #[Value.int IntKind.i64 J.k, Value.int IntKind.i64 J.id, Value.int IntKind.i64 J.code, Value.string J.t, Value.int IntKind.i64 J.body.k, Value.int IntKind.i64 J.body.i, Value.int IntKind.u64 J.body.b, Value.string J.body.t, Value.slice J.body.A J.body.l.length J.body.c, Value.slice J.cA J.codes.length J.cc, Value.slice J.A J.l.length J.c]) ∧ (done 1 = true → x52 = Value.slice A l.length c) ∧ (done 2 = true → x53 = Value.int IntKind.i64 id) ∧ (done 4 = true → x55 = Value.bool true) ∧ (done 5 = true → x56 = Value.bool false)) ?_ ?_ ?_
      · refine ⟨_, _, _, _, _, _, rfl, ⟨(Below.refl _ _).drew, (fun h => by cases h)⟩, ?_⟩
        simp
      · refine ⟨?_, ?_, ?_, ?_, ?_, ?_, trivial⟩
        · rintro done a wx hd he ⟨x51, x52, x53, x54, x55, x56, rfl, hB, i0, i1, i2, i4, i5⟩ hcl K hK
          refine step_wp rfl (wp_load_row 29 _ rfl w2.heap.size rfl _ _ _ _ (HB3.out.2.2.2.to hB.1) uE rfl sizeE ?_)
          exact hK _ _ ⟨_, x52, x53, x54, x55, x56, rfl, hB, fun _ => rfl, i1, i2, i4, i5⟩
        · rintro done a wx hd he ⟨x51, x52, x53, x54, x55, x56, rfl, hB, i0, i1, i2, i4, i5⟩ hcl K hK
          refine step_wp rfl (wp_value (Value.slice A l.length c) (by kernel_rfl) ?_)
          exact hK _ _ ⟨x51, _, x53, x54, x55, x56, rfl, hB, i0, fun _ => rfl, i2, i4, i5⟩
        · rintro done a wx hd he ⟨x51, x52, x53, x54, x55, x56, rfl, hB, i0, i1, i2, i4, i5⟩ hcl K hK
          refine step_wp rfl (wp_value (Value.int IntKind.i64 id) (by kernel_rfl) ?_)
          exact hK _ _ ⟨x51, x52, _, x54, x55, x56, rfl, hB, i0, i1, fun _ => rfl, i4, i5⟩
        · rintro done a wx hd he ⟨x51, x52, x53, x54, x55, x56, rfl, hB, i0, i1, i2, i4, i5⟩ hcl K hK
          simp [Region.binds] at he
          obtain rfl := i1 (by simp [he])
          obtain rfl := i2 (by simp [he])
          refine step_wp rfl (wp_call (f := 24) (args := #[Value.slice A l.length c, Value.int IntKind.i64 id]) (by kernel_rfl) (Hj1.out wx (HB3.out.1.trans (hB.1.mono HB3.out.1.size))) ?_)
          rintro en w5 ⟨J2, rfl, m1, m2, m3, m4⟩
          exact ⟨_, rfl, hK _ _ ⟨x51, _, _, _, x55, x56, rfl, ⟨hB.1.trans (m4.mono hB.1.size), fun _ => ⟨J2, rfl, m1, m2⟩⟩, i0, fun _ => rfl, fun _ => rfl, i4, i5⟩⟩
        · rintro done a wx hd he ⟨x51, x52, x53, x54, x55, x56, rfl, hB, i0, i1, i2, i4, i5⟩ hcl K hK
          simp [Region.binds] at he
          obtain rfl := i0 (by simp [he])
          obtain ⟨J2, rfl, m1, m2⟩ := hB.2 (by simp [he])
          have hsm := (sameE1_any J.size J J2 wx (Nat.le_refl _) (HB3.out.2.2.1.below hB.1) m1).mono (fun en w5 h => show Ret (.bool true) wx en w5 from (E.same_of_bare J J2 (HJb.out.trans m2.symm)) ▸ h)
          refine step_wp rfl (wp_call (f := 16) (args := #[J.v, J2.v]) (by kernel_rfl) hsm ?_)
          rintro en w5 ⟨rfl, hb⟩
          exact ⟨_, rfl, hK _ _ ⟨_, x52, x53, _, _, x56, rfl, ⟨hB.1.trans (hb.mono hB.1.size), fun _ => ⟨J2, rfl, m1.below hb, m2⟩⟩, fun _ => rfl, i1, i2, fun _ => rfl, i5⟩⟩
        · rintro done a wx hd he ⟨x51, x52, x53, x54, x55, x56, rfl, hB, i0, i1, i2, i4, i5⟩ hcl K hK
          simp [Region.binds] at he
          obtain rfl := i4 (by simp [he])
          refine step_wp rfl (wp_value (Value.bool false) (by kernel_rfl) ?_)
          exact hK _ _ ⟨x51, x52, x53, x54, _, _, rfl, hB, i0, i1, i2, fun _ => rfl, fun _ => rfl⟩
      · rintro done a wx hd ⟨x51, x52, x53, x54, x55, x56, rfl, hB, i0, i1, i2, i4, i5⟩
        have dd : ∀ j, j < 6 → done j = true := fun j h => hd j (by simpa using h)
        obtain rfl := i0 (dd 0 (by omega))
        obtain rfl := i1 (dd 1 (by omega))
        obtain rfl := i2 (dd 2 (by omega))
        obtain rfl := i4 (dd 4 (by omega))
        obtain rfl := i5 (dd 5 (by omega))
        have HB4 : Hid (Below w.heap.size w wx ∧ Blk wx w.heap.size 29 t.cs.toArray ∧ J.In wx ∧ Blk wx w2.heap.size 29 J.cs.toArray) := ⟨HB3.out.1.trans (hB.1.mono HB3.out.1.size), HB3.out.2.1.to hB.1, HB3.out.2.2.1.below hB.1, HB3.out.2.2.2.to hB.1⟩
        clear i0 i1 i2 i4 i5 dd hB HB3 Hj1
        have b0 := HB4.out.2.2.2
        have c0 := b0.cell 0
        have c1 := b0.cell 1
        have c2 := b0.cell 2
        have c3 := b0.cell 3
        have c4 := b0.cell 4
        have c5 := b0.cell 5
        have c6 := b0.cell 6
        have c7 := b0.cell 7
        have c8 := b0.cell 8
        have c9 := b0.cell 9
        have c10 := b0.cell 10
        simp [E.cs] at c0 c1 c2 c3 c4 c5 c6 c7 c8 c9 c10
        clear b0
        have Hvj := Lib.hid (validE1_any J wx HB4.out.2.2.1)
        have HJo : Hid (J.valid1 = true → J.Ok) := Lib.hid (E.valid1_iff J).1
        generalize J.valid1 = vJ at *
        simp only [E.v, E.cs] at Hvj
        go_wp2_with fail
        refine Hvj.out.mono ?_
        rintro en w6 ⟨rfl, hb⟩
        have HB6 : Hid (Below w.heap.size w w6 ∧ Blk w6 w.heap.size 29 t.cs.toArray ∧ J.In w6 ∧ Blk w6 w2.heap.size 29 J.cs.toArray) := ⟨HB4.out.1.trans (hb.mono HB4.out.1.size), HB4.out.2.1.to hb, HB4.out.2.2.1.below hb, HB4.out.2.2.2.to hb⟩
        clear hb c0 c1 c2 c3 c4 c5 c6 c7 c8 c9 c10 HB4 Hvj
        cases vJ
        · go_wp2_with fail
          refine (hA.out _ HB6.out.1).mono ?_
          rintro en wz ⟨rfl, hbz⟩
          have Hf := Lib.hid (HP.out _ (Below.trans HB6.out.1 (hbz.mono (Below.size HB6.out.1))))
          clear hbz
          go_wp2_with fail
          exact Hf
        have HJk := Lib.hid (HJo.out rfl)
        clear HJo
        have c0 := HB6.out.2.2.2.cell 0
        have d0 := HB6.out.2.1.cell 0
        have d1 := HB6.out.2.1.cell 1
        simp [E.cs] at c0 d0 d1
        by_cases hJ0 : J.k = 0
        · have hJb : (J.k == 0) = true := by simpa using hJ0
          clear hJ0
          go_wp2_with fail
          refine (hA.out _ HB6.out.1).mono ?_
          rintro en wz ⟨rfl, hbz⟩
          have Hf := Lib.hid (HP.out _ (Below.trans HB6.out.1 (hbz.mono (Below.size HB6.out.1))))
          clear hbz
          go_wp2_with fail
          exact Hf
        have hJb : (J.k == 0) = false := by simpa using hJ0
        have HJ0 := Lib.hid hJ0
        clear hJ0
        by_cases ht0 : t.k = 0
        · have htb : (t.k == 0) = true := by simpa using ht0
          clear ht0
          go_wp2_with fail
          refine (hA.out _ HB6.out.1).mono ?_
          rintro en wz ⟨rfl, hbz⟩
          have Hf := Lib.hid (HP.out _ (Below.trans HB6.out.1 (hbz.mono (Below.size HB6.out.1))))
          clear hbz
          go_wp2_with fail
          exact Hf
        have htb : (t.k == 0) = false := by simpa using ht0
        have HT0 := Lib.hid ht0
        clear ht0
        by_cases hboth : t.k = 4 ∧ t.id = id
        · have h4b : (t.k == 4) = true := by simpa using hboth.1
          have hib : (t.id == id) = true := by simpa using hboth.2
          clear hboth
          go_wp2_with fail
          refine (hA.out _ HB6.out.1).mono ?_
          rintro en wz ⟨rfl, hbz⟩
          have Hf := Lib.hid (HP.out _ (Below.trans HB6.out.1 (hbz.mono (Below.size HB6.out.1))))
          clear hbz
          go_wp2_with fail
          exact Hf
        have HNb := Lib.hid hboth
        have hcase : ((t.k == 4) = true ∧ (t.id == id) = false) ∨ (t.k == 4) = false := by
          by_cases h4 : t.k = 4
          · left; exact ⟨by simpa using h4, by simp; exact fun h => hboth ⟨h4, h⟩⟩
          · right; simpa using h4
        clear hboth
        have Hq : Hid (∀ (x : E) (W : World), Below w.heap.size w W → x.In W → x.Ok → x.k ≠ 0 → Calls Tryz.prog 17 #[x.v, t.v] W (Two (E.ris D.req t x).1 (E.ris D.req t x).2 W)) := Lib.hid fun x W h hx hxo hx0 => by
          have := (isE_any D.req u x t W hx (HI.out.2.1.below h) hxo.2.2.2 HT.out.2.2.2 hxo.2.1 (HI.out.2.2.1.below h) (fun _ => dEq)).mono (two_cmp (isR_snd x t))
          rw [isR_one hx0 HT0.out] at this
          exact this
        have HqJ : Hid (∀ W, Below w.heap.size w W → J.In W → Calls Tryz.prog 17 #[J.v, t.v] W (Two (E.risL D.req t l).1 (E.risL D.req t l).2 W)) := Lib.hid fun W h hx => by
          have := (isE_any D.req u J t W hx (HI.out.2.1.below h) HJk.out.2.2.2 HT.out.2.2.2 HJk.out.2.1 (HI.out.2.2.1.below h) (fun _ => dEq)).mono (two_cmp (isR_snd J t))
          rw [isR_joined HJb.out HJ0.out HT0.out HNb.out] at this
          exact this
        have Hsnd : Hid (∀ x : E, (E.ris D.req t x).2 = true → (E.ris D.req t x).1 = false) := Lib.hid (ris_snd D.req t (fun e => eqr_snd e t))
        generalize hr : E.risL D.req t l = r at HqJ
        have Hr := Lib.hid hr
        clear hr
        simp only [E.v, E.cs] at HqJ
        rcases hcase with ⟨h4b, hib⟩ | h4b
        · go_wp2_with fail
          go_loopg [10, 11, 83] l.length (fun gk wa wb i wr => ∃ j : Nat, i = .int .i64 j ∧ wa = .bool false ∧ wb = .int .i64 0 ∧ j + gk = l.length ∧ Hid (Below w6.heap.size w6 wr ∧ E.risL D.req t (l.drop j) = r))
          case atStart => exact ⟨0, rfl, rfl, rfl, by omega, Below.refl _ _, by rw [List.drop_zero]; exact Hr.out⟩
          case round =>
            obtain ⟨j, rfl, rfl, rfl, hj, hI⟩ := hrel
            clear c0 d0 d1
            by_cases hlt : j < l.length
            · obtain ⟨x, ex⟩ : ∃ x, l[j]? = some x := ⟨_, List.getElem?_eq_getElem hlt⟩
              obtain ⟨⟨ad, rfl, h1⟩, hx⟩ := HEl.out j x ex
              have hbw : Below w.heap.size w wr := HB6.out.1.trans (hI.out.1.mono HB6.out.1.size)
              have p0 := (h1.below hbw).eleven.1
              have Hst := Lib.hid (show E.risL D.req t (l.drop j) = if ((E.ris D.req t x).1 || (E.ris D.req t x).2) then E.ris D.req t x else E.risL D.req t (l.drop (j + 1)) by rw [drop_of_get ex, E.risL])
              by_cases hk : x.k = 0
              · have hkb : (x.k == 0) = true := by simpa using hk
                have HN : Hid (Below w6.heap.size w6 wr ∧ E.risL D.req t (l.drop (j + 1)) = r) := ⟨hI.out.1, by
                  rw [← hI.out.2, Hst.out, show E.ris D.req t x = (false, false) by rw [E.ris_eq, if_pos hk]]
                  rfl⟩
                clear hk h1 hx ex hbw hI Hst
                go_wp2_with fail
                go_roundg (gk - 1)
                case measure => omega
                case rel => exact ⟨j + 1, by go_num, rfl, rfl, by omega, HN⟩
              have hkb : (x.k == 0) = false := by simpa using hk
              have Hbw := Lib.hid hbw
              have Hx := Lib.hid (fun W (h : Below wr.heap.size wr W) => h1.below (hbw.trans (h.mono hbw.size)))
              have Ht := Lib.hid (fun W (h : Below wr.heap.size wr W) => (HB6.out.2.1.to hI.out.1).to h)
              have Hc := Lib.hid (fun W (h : Below wr.heap.size wr W) => Hq.out x W (hbw.trans (h.mono hbw.size)) (hx.below (hbw.trans (h.mono hbw.size))) (Hok.out j x ex) hk)
              have Hzs := Lib.hid (Hsnd.out x)
              clear hk h1 hx ex hbw
              simp only [E.v, E.cs] at Hc Hx Ht
              generalize E.ris D.req t x = z at *
              go_wp2_with fail
              clear p0
              refine wp_region_eachC (by kernel_rfl) (by kernel_rfl) (fun done a w' => ∃ x10 x11 x92 x93 x94 x95 x96 x97 x98 x99 x100, a = ⟨#[Value.slice (some ad) l.length c, Value.int IntKind.i64 id, Value.agg #[Value.int IntKind.i64 t.k, Value.int IntKind.i64 t.id, Value.int IntKind.i64 t.code, Value.string t.t, Value.int IntKind.i64 t.body.k, Value.int IntKind.i64 t.body.i, Value.int IntKind.u64 t.body.b, Value.string t.body.t, Value.slice t.body.A t.body.l.length t.body.c, Value.slice t.cA t.codes.length t.cc, Value.slice t.A t.l.length t.c], undef, undef, Value.pointer (some ⟨w.heap.size, 0, none⟩), u6, Value.int IntKind.i64 ↑NN, u8, Value.pointer (some ⟨w2.heap.size, 0, none⟩), x10, x11, Value.int IntKind.i64 ↑j, undef, undef, Value.slice (some ad) l.length c, Value.int IntKind.i64 ↑l.length, Value.int IntKind.i64 ↑l.length, Value.bool false, u19, u20, u21, u22, u23, u24, u25, u26, u27, u28, u29, u30, u31, u32, u33, u34, u35, u36, u37, u38, u39, Value.int IntKind.i64 id, Value.bool false, Value.bool false, Value.agg #[Value.int IntKind.i64 t.k, Value.int IntKind.i64 t.id, Value.int IntKind.i64 t.code, Value.string t.t, Value.int IntKind.i64 t.body.k, Value.int IntKind.i64 t.body.i, Value.int IntKind.u64 t.body.b, Value.string t.body.t, Value.slice t.body.A t.body.l.length t.body.c, Value.slice t.cA t.codes.length t.cc, Value.slice t.A t.l.length t.c], Value.bool true, Value.bool false, Value.bool false, undef, Value.slice (some ad) l.length c, Value.int IntKind.i64 id, Value.agg #[Value.int IntKind.i64 J.k, Value.int IntKind.i64 J.id, Value.int IntKind.i64 J.code, Value.string J.t, Value.int IntKind.i64 J.body.k, Value.int IntKind.i64 J.body.i, Value.int IntKind.u64 J.body.b, Value.string J.body.t, Value.slice J.body.A J.body.l.length J.body.c, Value.slice J.cA J.codes.length J.cc, Value.slice J.A J.l.length J.c], Value.agg #[Value.int IntKind.i64 J.k, Value.int IntKind.i64 J.id, Value.int IntKind.i64 J.code, Value.string J.t, Value.int IntKind.i64 J.body.k, Value.int IntKind.i64 J.body.i, Value.int IntKind.u64 J.body.b, Value.string J.body.t, Value.slice J.body.A J.body.l.length J.body.c, Value.slice J.cA J.codes.length J.cc, Value.slice J.A J.l.length J.c], Value.slice (some ad) l.length c, Value.int IntKind.i64 id, x54, Value.bool true, Value.bool false, Value.agg #[Value.int IntKind.i64 J.k, Value.int IntKind.i64 J.id, Value.int IntKind.i64 J.code, Value.string J.t, Value.int IntKind.i64 J.body.k, Value.int IntKind.i64 J.body.i, Value.int IntKind.u64 J.body.b, Value.string J.body.t, Value.slice J.body.A J.body.l.length J.body.c, Value.slice J.cA J.codes.length J.cc, Value.slice J.A J.l.length J.c], Value.bool true, Value.bool false, Value.bool false, Value.pointer (some ⟨w2.heap.size, 0, none⟩), Value.int IntKind.i64 J.k, Value.bool false, Value.bool false, Value.bool false, Value.pointer (some ⟨w.heap.size, 0, none⟩), Value.int IntKind.i64 t.k, Value.bool false, Value.bool false, undef, Value.pointer (some ⟨w.heap.size, 0, none⟩), Value.int IntKind.i64 t.k, Value.bool true, Value.bool true, Value.pointer (some ⟨w.heap.size, 1, none⟩), Value.int IntKind.i64 t.id, Value.int IntKind.i64 id, Value.bool false, Value.bool false, undef, Value.slice (some ad) l.length c, Value.int IntKind.i64 ↑l.length, Value.int IntKind.i64 ↑j, Value.bool true, Value.int IntKind.i64 ↑j, Value.slice (some ad) l.length c, Value.int IntKind.i64 ↑j, Value.pointer (some (ad.add (j * 11))), Value.pointer (some (ad.add (j * 11))), Value.int IntKind.i64 x.k, Value.bool false, x92, x93, x94, x95, x96, x97, x98, x99, x100, u101, u102, u103, u104, u105, u106, undef, undef, undef, undef, undef, undef, undef, undef, undef, undef, undef, undef, undef, undef, undef, undef, undef], []⟩ ∧ Below wr.heap.size wr w' ∧ (done 0 = true → x93 = Value.slice (some ad) l.length c) ∧ (done 1 = true → x94 = Value.int IntKind.i64 ↑j) ∧ (done 2 = true → x95 = Value.pointer (some (ad.add (j * 11)))) ∧ (done 3 = true → x96 = Value.agg #[Value.int IntKind.i64 x.k, Value.int IntKind.i64 x.id, Value.int IntKind.i64 x.code, Value.string x.t, Value.int IntKind.i64 x.body.k, Value.int IntKind.i64 x.body.i, Value.int IntKind.u64 x.body.b, Value.string x.body.t, Value.slice x.body.A x.body.l.length x.body.c, Value.slice x.cA x.codes.length x.cc, Value.slice x.A x.l.length x.c]) ∧ (done 4 = true → x97 = Value.agg #[Value.int IntKind.i64 t.k, Value.int IntKind.i64 t.id, Value.int IntKind.i64 t.code, Value.string t.t, Value.int IntKind.i64 t.body.k, Value.int IntKind.i64 t.body.i, Value.int IntKind.u64 t.body.b, Value.string t.body.t, Value.slice t.body.A t.body.l.length t.body.c, Value.slice t.cA t.codes.length t.cc, Value.slice t.A t.l.length t.c]) ∧ (done 5 = true → x98 = Value.tuple #[Value.bool z.1, Value.int IntKind.i64 (num z.2)]) ∧ (done 6 = true → x92 = Value.tuple #[Value.bool z.1, Value.int IntKind.i64 (num z.2)]) ∧ (done 7 = true → x99 = Value.bool z.1) ∧ (done 8 = true → x100 = Value.int IntKind.i64 (num z.2)) ∧ (done 9 = true → x10 = Value.bool z.1) ∧ (done 10 = true → x11 = Value.int IntKind.i64 (num z.2))) ?_ ?_ ?_
              · refine ⟨_, _, _, _, _, _, _, _, _, _, _, rfl, (Below.refl _ _).drew, ?_⟩
                simp
              · refine ⟨?_, ?_, ?_, ?_, ?_, ?_, ?_, ?_, ?_, ?_, ?_, trivial⟩
                · rintro done a wx hd he ⟨x10, x11, x92, x93, x94, x95, x96, x97, x98, x99, x100, rfl, hB, i0, i1, i2, i3, i4, i5, i6, i7, i8, i9, i10⟩ hcl K hK
                  refine step_wp rfl (wp_value (Value.slice (some ad) l.length c) (by kernel_rfl) ?_)
                  exact hK _ _ ⟨x10, x11, x92, _, x94, x95, x96, x97, x98, x99, x100, rfl, hB, fun _ => rfl, i1, i2, i3, i4, i5, i6, i7, i8, i9, i10⟩
                · rintro done a wx hd he ⟨x10, x11, x92, x93, x94, x95, x96, x97, x98, x99, x100, rfl, hB, i0, i1, i2, i3, i4, i5, i6, i7, i8, i9, i10⟩ hcl K hK
                  refine step_wp rfl (wp_value (Value.int IntKind.i64 ↑j) (by kernel_rfl) ?_)
                  exact hK _ _ ⟨x10, x11, x92, x93, _, x95, x96, x97, x98, x99, x100, rfl, hB, i0, fun _ => rfl, i2, i3, i4, i5, i6, i7, i8, i9, i10⟩
                · rintro done a wx hd he ⟨x10, x11, x92, x93, x94, x95, x96, x97, x98, x99, x100, rfl, hB, i0, i1, i2, i3, i4, i5, i6, i7, i8, i9, i10⟩ hcl K hK
                  simp [Region.binds] at he
                  obtain rfl := i0 (by simp [he])
                  obtain rfl := i1 (by simp [he])
                  refine step_wp rfl (wp_value (Value.pointer (some (ad.add (j * 11)))) (idx_any _ _ 11 elemE underE sizeE (.tmp 93) (.tmp 94) ad l.length c j hlt _ _ rfl rfl rfl wx) ?_)
                  exact hK _ _ ⟨x10, x11, x92, _, _, _, x96, x97, x98, x99, x100, rfl, hB, fun _ => rfl, fun _ => rfl, fun _ => rfl, i3, i4, i5, i6, i7, i8, i9, i10⟩
                · rintro done a wx hd he ⟨x10, x11, x92, x93, x94, x95, x96, x97, x98, x99, x100, rfl, hB, i0, i1, i2, i3, i4, i5, i6, i7, i8, i9, i10⟩ hcl K hK
                  simp [Region.binds] at he
                  obtain rfl := i2 (by simp [he])
                  refine step_wp rfl (wp_load_at 29 _ rfl (ad.add (j * 11)) rfl _ _ (Hx.out wx hB) uE rfl sizeE ?_)
                  exact hK _ _ ⟨x10, x11, x92, x93, x94, _, _, x97, x98, x99, x100, rfl, hB, i0, i1, fun _ => rfl, fun _ => rfl, i4, i5, i6, i7, i8, i9, i10⟩
                · rintro done a wx hd he ⟨x10, x11, x92, x93, x94, x95, x96, x97, x98, x99, x100, rfl, hB, i0, i1, i2, i3, i4, i5, i6, i7, i8, i9, i10⟩ hcl K hK
                  refine step_wp rfl (wp_load_row 29 _ rfl w.heap.size rfl _ _ _ _ (Ht.out wx hB) uE rfl sizeE ?_)
                  exact hK _ _ ⟨x10, x11, x92, x93, x94, x95, x96, _, x98, x99, x100, rfl, hB, i0, i1, i2, i3, fun _ => rfl, i5, i6, i7, i8, i9, i10⟩
                · rintro done a wx hd he ⟨x10, x11, x92, x93, x94, x95, x96, x97, x98, x99, x100, rfl, hB, i0, i1, i2, i3, i4, i5, i6, i7, i8, i9, i10⟩ hcl K hK
                  simp [Region.binds] at he
                  obtain rfl := i3 (by simp [he])
                  obtain rfl := i4 (by simp [he])
                  refine step_wp rfl (wp_call (f := 17) (args := #[Value.agg #[Value.int IntKind.i64 x.k, Value.int IntKind.i64 x.id, Value.int IntKind.i64 x.code, Value.string x.t, Value.int IntKind.i64 x.body.k, Value.int IntKind.i64 x.body.i, Value.int IntKind.u64 x.body.b, Value.string x.body.t, Value.slice x.body.A x.body.l.length x.body.c, Value.slice x.cA x.codes.length x.cc, Value.slice x.A x.l.length x.c], Value.agg #[Value.int IntKind.i64 t.k, Value.int IntKind.i64 t.id, Value.int IntKind.i64 t.code, Value.string t.t, Value.int IntKind.i64 t.body.k, Value.int IntKind.i64 t.body.i, Value.int IntKind.u64 t.body.b, Value.string t.body.t, Value.slice t.body.A t.body.l.length t.body.c, Value.slice t.cA t.codes.length t.cc, Value.slice t.A t.l.length t.c]]) (by kernel_rfl) (Hc.out wx hB) ?_)
                  rintro en w5 ⟨rfl, hb⟩
                  exact ⟨_, rfl, hK _ _ ⟨x10, x11, x92, x93, x94, x95, _, _, _, x99, x100, rfl, hB.trans (hb.mono hB.size), i0, i1, i2, fun _ => rfl, fun _ => rfl, fun _ => rfl, i6, i7, i8, i9, i10⟩⟩
                · rintro done a wx hd he ⟨x10, x11, x92, x93, x94, x95, x96, x97, x98, x99, x100, rfl, hB, i0, i1, i2, i3, i4, i5, i6, i7, i8, i9, i10⟩ hcl K hK
                  simp [Region.binds] at he
                  obtain rfl := i5 (by simp [he])
                  refine step_wp rfl (wp_value (Value.tuple #[Value.bool z.1, Value.int IntKind.i64 (num z.2)]) (by kernel_rfl) ?_)
                  exact hK _ _ ⟨x10, x11, _, x93, x94, x95, x96, x97, _, x99, x100, rfl, hB, i0, i1, i2, i3, i4, fun _ => rfl, fun _ => rfl, i7, i8, i9, i10⟩
                · rintro done a wx hd he ⟨x10, x11, x92, x93, x94, x95, x96, x97, x98, x99, x100, rfl, hB, i0, i1, i2, i3, i4, i5, i6, i7, i8, i9, i10⟩ hcl K hK
                  simp [Region.binds] at he
                  obtain rfl := i6 (by simp [he])
                  refine step_wp rfl (wp_value (Value.bool z.1) (by kernel_rfl) ?_)
                  exact hK _ _ ⟨x10, x11, _, x93, x94, x95, x96, x97, x98, _, x100, rfl, hB, i0, i1, i2, i3, i4, i5, fun _ => rfl, fun _ => rfl, i8, i9, i10⟩
                · rintro done a wx hd he ⟨x10, x11, x92, x93, x94, x95, x96, x97, x98, x99, x100, rfl, hB, i0, i1, i2, i3, i4, i5, i6, i7, i8, i9, i10⟩ hcl K hK
                  simp [Region.binds] at he
                  obtain rfl := i6 (by simp [he])
                  refine step_wp rfl (wp_value (Value.int IntKind.i64 (num z.2)) (by kernel_rfl) ?_)
                  exact hK _ _ ⟨x10, x11, _, x93, x94, x95, x96, x97, x98, x99, _, rfl, hB, i0, i1, i2, i3, i4, i5, fun _ => rfl, i7, fun _ => rfl, i9, i10⟩
                · rintro done a wx hd he ⟨x10, x11, x92, x93, x94, x95, x96, x97, x98, x99, x100, rfl, hB, i0, i1, i2, i3, i4, i5, i6, i7, i8, i9, i10⟩ hcl K hK
                  simp [Region.binds] at he
                  obtain rfl := i7 (by simp [he])
                  refine step_wp rfl (wp_value (Value.bool z.1) (by kernel_rfl) ?_)
                  exact hK _ _ ⟨_, x11, x92, x93, x94, x95, x96, x97, x98, _, x100, rfl, hB, i0, i1, i2, i3, i4, i5, i6, fun _ => rfl, i8, fun _ => rfl, i10⟩
                · rintro done a wx hd he ⟨x10, x11, x92, x93, x94, x95, x96, x97, x98, x99, x100, rfl, hB, i0, i1, i2, i3, i4, i5, i6, i7, i8, i9, i10⟩ hcl K hK
                  simp [Region.binds] at he
                  obtain rfl := i8 (by simp [he])
                  refine step_wp rfl (wp_value (Value.int IntKind.i64 (num z.2)) (by kernel_rfl) ?_)
                  exact hK _ _ ⟨x10, _, x92, x93, x94, x95, x96, x97, x98, x99, _, rfl, hB, i0, i1, i2, i3, i4, i5, i6, i7, fun _ => rfl, i9, fun _ => rfl⟩
              · rintro done a wx hd ⟨x10, x11, x92, x93, x94, x95, x96, x97, x98, x99, x100, rfl, hB, i0, i1, i2, i3, i4, i5, i6, i7, i8, i9, i10⟩
                have dd : ∀ j, j < 11 → done j = true := fun j h => hd j (by simpa using h)
                obtain rfl := i0 (dd 0 (by omega))
                obtain rfl := i1 (dd 1 (by omega))
                obtain rfl := i2 (dd 2 (by omega))
                obtain rfl := i3 (dd 3 (by omega))
                obtain rfl := i4 (dd 4 (by omega))
                obtain rfl := i5 (dd 5 (by omega))
                obtain rfl := i6 (dd 6 (by omega))
                obtain rfl := i7 (dd 7 (by omega))
                obtain rfl := i8 (dd 8 (by omega))
                obtain rfl := i9 (dd 9 (by omega))
                obtain rfl := i10 (dd 10 (by omega))
                clear i0 i1 i2 i3 i4 i5 i6 i7 i8 i9 i10 dd
                have hbx : Below w6.heap.size w6 wx := hI.out.1.trans (hB.mono hI.out.1.size)
                have Hbx := Lib.hid hbx
                clear hB hbx Hx Ht Hc
                obtain ⟨z1, z2⟩ := z
                have n1 : num true = 10 := rfl
                have n0 : num false = 0 := rfl
                cases z1
                · cases z2
                  · have HN : Hid (Below w6.heap.size w6 wx ∧ E.risL D.req t (l.drop (j + 1)) = r) := ⟨Hbx.out, by rw [← hI.out.2, Hst.out]; rfl⟩
                    clear hI Hst Hbx
                    go_wp2_with fail
                    go_roundg (gk - 1)
                    case measure => omega
                    case rel => exact ⟨j + 1, by go_num, rfl, rfl, by omega, HN⟩
                  · obtain rfl : r = (false, true) := by rw [← hI.out.2, Hst.out]; rfl
                    clear hI Hst n1 n0
                    have H8 : Hid (Below w.heap.size w wx ∧ Blk wx w.heap.size 29 t.cs.toArray ∧ J.In wx ∧ Blk wx w2.heap.size 29 J.cs.toArray) := ⟨HB6.out.1.trans (Below.mono Hbx.out HB6.out.1.size), HB6.out.2.1.to Hbx.out, HB6.out.2.2.1.below Hbx.out, HB6.out.2.2.2.to Hbx.out⟩
                    have bJ := H8.out.2.2.2
                    have bT := H8.out.2.1
                    have c0 := bJ.cell 0
                    have c1 := bJ.cell 1
                    have c2 := bJ.cell 2
                    have c3 := bJ.cell 3
                    have c4 := bJ.cell 4
                    have c5 := bJ.cell 5
                    have c6 := bJ.cell 6
                    have c7 := bJ.cell 7
                    have c8 := bJ.cell 8
                    have c9 := bJ.cell 9
                    have c10 := bJ.cell 10
                    have d0 := bT.cell 0
                    have d1 := bT.cell 1
                    have d2 := bT.cell 2
                    have d3 := bT.cell 3
                    have d4 := bT.cell 4
                    have d5 := bT.cell 5
                    have d6 := bT.cell 6
                    have d7 := bT.cell 7
                    have d8 := bT.cell 8
                    have d9 := bT.cell 9
                    have d10 := bT.cell 10
                    simp [E.cs] at c0 c1 c2 c3 c4 c5 c6 c7 c8 c9 c10 d0 d1 d2 d3 d4 d5 d6 d7 d8 d9 d10
                    clear bJ bT
                    have Hq9 := Lib.hid (HqJ.out _ H8.out.1 H8.out.2.2.1)
                    go_wp2_with fail
                    refine Hq9.out.mono ?_
                    rintro en w9 ⟨rfl, hb9⟩
                    have Hb9 := Lib.hid (H8.out.1.trans (hb9.mono H8.out.1.size))
                    clear hb9 c0 c1 c2 c3 c4 c5 c6 c7 c8 c9 c10 d0 d1 d2 d3 d4 d5 d6 d7 d8 d9 d10 Hq9
                    have n1 : num true = 10 := rfl
                    have n0 : num false = 0 := rfl
                    go_wp2_with fail
                    refine (hA.out _ Hb9.out).mono ?_
                    rintro en wz ⟨rfl, hbz⟩
                    have Hf := Lib.hid (HP.out _ (Below.trans Hb9.out (hbz.mono (Below.size Hb9.out))))
                    clear hbz
                    go_wp2_with fail
                    exact Hf
                · obtain rfl : z2 = false := by
                    cases z2
                    · rfl
                    · exact absurd (Hzs.out rfl) (by simp)
                  obtain rfl : r = (true, false) := by rw [← hI.out.2, Hst.out]; rfl
                  clear hI Hst n1 n0
                  have H8 : Hid (Below w.heap.size w wx ∧ Blk wx w.heap.size 29 t.cs.toArray ∧ J.In wx ∧ Blk wx w2.heap.size 29 J.cs.toArray) := ⟨HB6.out.1.trans (Below.mono Hbx.out HB6.out.1.size), HB6.out.2.1.to Hbx.out, HB6.out.2.2.1.below Hbx.out, HB6.out.2.2.2.to Hbx.out⟩
                  have bJ := H8.out.2.2.2
                  have bT := H8.out.2.1
                  have c0 := bJ.cell 0
                  have c1 := bJ.cell 1
                  have c2 := bJ.cell 2
                  have c3 := bJ.cell 3
                  have c4 := bJ.cell 4
                  have c5 := bJ.cell 5
                  have c6 := bJ.cell 6
                  have c7 := bJ.cell 7
                  have c8 := bJ.cell 8
                  have c9 := bJ.cell 9
                  have c10 := bJ.cell 10
                  have d0 := bT.cell 0
                  have d1 := bT.cell 1
                  have d2 := bT.cell 2
                  have d3 := bT.cell 3
                  have d4 := bT.cell 4
                  have d5 := bT.cell 5
                  have d6 := bT.cell 6
                  have d7 := bT.cell 7
                  have d8 := bT.cell 8
                  have d9 := bT.cell 9
                  have d10 := bT.cell 10
                  simp [E.cs] at c0 c1 c2 c3 c4 c5 c6 c7 c8 c9 c10 d0 d1 d2 d3 d4 d5 d6 d7 d8 d9 d10
                  clear bJ bT
                  have Hq9 := Lib.hid (HqJ.out _ H8.out.1 H8.out.2.2.1)
                  go_wp2_with fail
                  refine Hq9.out.mono ?_
                  rintro en w9 ⟨rfl, hb9⟩
                  have Hb9 := Lib.hid (H8.out.1.trans (hb9.mono H8.out.1.size))
                  clear hb9 c0 c1 c2 c3 c4 c5 c6 c7 c8 c9 c10 d0 d1 d2 d3 d4 d5 d6 d7 d8 d9 d10 Hq9
                  have n1 : num true = 10 := rfl
                  have n0 : num false = 0 := rfl
                  go_wp2_with fail
                  refine (hA.out _ Hb9.out).mono ?_
                  rintro en wz ⟨rfl, hbz⟩
                  have Hf := Lib.hid (HP.out _ (Below.trans Hb9.out (hbz.mono (Below.size Hb9.out))))
                  clear hbz
                  go_wp2_with fail
                  exact Hf
            · obtain rfl : r = (false, false) := by rw [← hI.out.2, List.drop_eq_nil_of_le (by omega), E.risL]
              have Hbx := Lib.hid hI.out.1
              clear hI
              have H8 : Hid (Below w.heap.size w wr ∧ Blk wr w.heap.size 29 t.cs.toArray ∧ J.In wr ∧ Blk wr w2.heap.size 29 J.cs.toArray) := ⟨HB6.out.1.trans (Below.mono Hbx.out HB6.out.1.size), HB6.out.2.1.to Hbx.out, HB6.out.2.2.1.below Hbx.out, HB6.out.2.2.2.to Hbx.out⟩
              have bJ := H8.out.2.2.2
              have bT := H8.out.2.1
              have c0 := bJ.cell 0
              have c1 := bJ.cell 1
              have c2 := bJ.cell 2
              have c3 := bJ.cell 3
              have c4 := bJ.cell 4
              have c5 := bJ.cell 5
              have c6 := bJ.cell 6
              have c7 := bJ.cell 7
              have c8 := bJ.cell 8
              have c9 := bJ.cell 9
              have c10 := bJ.cell 10
              have d0 := bT.cell 0
              have d1 := bT.cell 1
              have d2 := bT.cell 2
              have d3 := bT.cell 3
              have d4 := bT.cell 4
              have d5 := bT.cell 5
              have d6 := bT.cell 6
              have d7 := bT.cell 7
              have d8 := bT.cell 8
              have d9 := bT.cell 9
              have d10 := bT.cell 10
              simp [E.cs] at c0 c1 c2 c3 c4 c5 c6 c7 c8 c9 c10 d0 d1 d2 d3 d4 d5 d6 d7 d8 d9 d10
              clear bJ bT
              have Hq9 := Lib.hid (HqJ.out _ H8.out.1 H8.out.2.2.1)
              go_wp2_with fail
              refine Hq9.out.mono ?_
              rintro en w9 ⟨rfl, hb9⟩
              have Hb9 := Lib.hid (H8.out.1.trans (hb9.mono H8.out.1.size))
              clear hb9 c0 c1 c2 c3 c4 c5 c6 c7 c8 c9 c10 d0 d1 d2 d3 d4 d5 d6 d7 d8 d9 d10 Hq9
              have n1 : num true = 10 := rfl
              have n0 : num false = 0 := rfl
              go_wp2_with fail
              refine (hA.out _ Hb9.out).mono ?_
              rintro en wz ⟨rfl, hbz⟩
              have Hf := Lib.hid (HP.out _ (Below.trans Hb9.out (hbz.mono (Below.size Hb9.out))))
              clear hbz
              go_wp2_with fail
              exact Hf
        · go_wp2_with fail
          go_loopg [10, 11, 83] l.length (fun gk wa wb i wr => ∃ j : Nat, i = .int .i64 j ∧ wa = .bool false ∧ wb = .int .i64 0 ∧ j + gk = l.length ∧ Hid (Below w6.heap.size w6 wr ∧ E.risL D.req t (l.drop j) = r))
          case atStart => exact ⟨0, rfl, rfl, rfl, by omega, Below.refl _ _, by rw [List.drop_zero]; exact Hr.out⟩
          case round =>
            obtain ⟨j, rfl, rfl, rfl, hj, hI⟩ := hrel
            clear c0 d0 d1
            by_cases hlt : j < l.length
            · obtain ⟨x, ex⟩ : ∃ x, l[j]? = some x := ⟨_, List.getElem?_eq_getElem hlt⟩
              obtain ⟨⟨ad, rfl, h1⟩, hx⟩ := HEl.out j x ex
              have hbw : Below w.heap.size w wr := HB6.out.1.trans (hI.out.1.mono HB6.out.1.size)
              have p0 := (h1.below hbw).eleven.1
              have Hst := Lib.hid (show E.risL D.req t (l.drop j) = if ((E.ris D.req t x).1 || (E.ris D.req t x).2) then E.ris D.req t x else E.risL D.req t (l.drop (j + 1)) by rw [drop_of_get ex, E.risL])
              by_cases hk : x.k = 0
              · have hkb : (x.k == 0) = true := by simpa using hk
                have HN : Hid (Below w6.heap.size w6 wr ∧ E.risL D.req t (l.drop (j + 1)) = r) := ⟨hI.out.1, by
                  rw [← hI.out.2, Hst.out, show E.ris D.req t x = (false, false) by rw [E.ris_eq, if_pos hk]]
                  rfl⟩
                clear hk h1 hx ex hbw hI Hst
                go_wp2_with fail
                go_roundg (gk - 1)
                case measure => omega
                case rel => exact ⟨j + 1, by go_num, rfl, rfl, by omega, HN⟩
              have hkb : (x.k == 0) = false := by simpa using hk
              have Hbw := Lib.hid hbw
              have Hx := Lib.hid (fun W (h : Below wr.heap.size wr W) => h1.below (hbw.trans (h.mono hbw.size)))
              have Ht := Lib.hid (fun W (h : Below wr.heap.size wr W) => (HB6.out.2.1.to hI.out.1).to h)
              have Hc := Lib.hid (fun W (h : Below wr.heap.size wr W) => Hq.out x W (hbw.trans (h.mono hbw.size)) (hx.below (hbw.trans (h.mono hbw.size))) (Hok.out j x ex) hk)
              have Hzs := Lib.hid (Hsnd.out x)
              clear hk h1 hx ex hbw
              simp only [E.v, E.cs] at Hc Hx Ht
              generalize E.ris D.req t x = z at *
              go_wp2_with fail
              clear p0
              refine wp_region_eachC (by kernel_rfl) (by kernel_rfl) (fun done a w' => ∃ x10 x11 x92 x93 x94 x95 x96 x97 x98 x99 x100, a = ⟨#[Value.slice (some ad) l.length c, Value.int IntKind.i64 id, Value.agg #[Value.int IntKind.i64 t.k, Value.int IntKind.i64 t.id, Value.int IntKind.i64 t.code, Value.string t.t, Value.int IntKind.i64 t.body.k, Value.int IntKind.i64 t.body.i, Value.int IntKind.u64 t.body.b, Value.string t.body.t, Value.slice t.body.A t.body.l.length t.body.c, Value.slice t.cA t.codes.length t.cc, Value.slice t.A t.l.length t.c], undef, undef, Value.pointer (some ⟨w.heap.size, 0, none⟩), u6, Value.int IntKind.i64 ↑NN, u8, Value.pointer (some ⟨w2.heap.size, 0, none⟩), x10, x11, Value.int IntKind.i64 ↑j, undef, undef, Value.slice (some ad) l.length c, Value.int IntKind.i64 ↑l.length, Value.int IntKind.i64 ↑l.length, Value.bool false, u19, u20, u21, u22, u23, u24, u25, u26, u27, u28, u29, u30, u31, u32, u33, u34, u35, u36, u37, u38, u39, Value.int IntKind.i64 id, Value.bool false, Value.bool false, Value.agg #[Value.int IntKind.i64 t.k, Value.int IntKind.i64 t.id, Value.int IntKind.i64 t.code, Value.string t.t, Value.int IntKind.i64 t.body.k, Value.int IntKind.i64 t.body.i, Value.int IntKind.u64 t.body.b, Value.string t.body.t, Value.slice t.body.A t.body.l.length t.body.c, Value.slice t.cA t.codes.length t.cc, Value.slice t.A t.l.length t.c], Value.bool true, Value.bool false, Value.bool false, undef, Value.slice (some ad) l.length c, Value.int IntKind.i64 id, Value.agg #[Value.int IntKind.i64 J.k, Value.int IntKind.i64 J.id, Value.int IntKind.i64 J.code, Value.string J.t, Value.int IntKind.i64 J.body.k, Value.int IntKind.i64 J.body.i, Value.int IntKind.u64 J.body.b, Value.string J.body.t, Value.slice J.body.A J.body.l.length J.body.c, Value.slice J.cA J.codes.length J.cc, Value.slice J.A J.l.length J.c], Value.agg #[Value.int IntKind.i64 J.k, Value.int IntKind.i64 J.id, Value.int IntKind.i64 J.code, Value.string J.t, Value.int IntKind.i64 J.body.k, Value.int IntKind.i64 J.body.i, Value.int IntKind.u64 J.body.b, Value.string J.body.t, Value.slice J.body.A J.body.l.length J.body.c, Value.slice J.cA J.codes.length J.cc, Value.slice J.A J.l.length J.c], Value.slice (some ad) l.length c, Value.int IntKind.i64 id, x54, Value.bool true, Value.bool false, Value.agg #[Value.int IntKind.i64 J.k, Value.int IntKind.i64 J.id, Value.int IntKind.i64 J.code, Value.string J.t, Value.int IntKind.i64 J.body.k, Value.int IntKind.i64 J.body.i, Value.int IntKind.u64 J.body.b, Value.string J.body.t, Value.slice J.body.A J.body.l.length J.body.c, Value.slice J.cA J.codes.length J.cc, Value.slice J.A J.l.length J.c], Value.bool true, Value.bool false, Value.bool false, Value.pointer (some ⟨w2.heap.size, 0, none⟩), Value.int IntKind.i64 J.k, Value.bool false, Value.bool false, Value.bool false, Value.pointer (some ⟨w.heap.size, 0, none⟩), Value.int IntKind.i64 t.k, Value.bool false, Value.bool false, undef, Value.pointer (some ⟨w.heap.size, 0, none⟩), Value.int IntKind.i64 t.k, Value.bool false, Value.bool false, undef, undef, undef, undef, Value.bool false, undef, Value.slice (some ad) l.length c, Value.int IntKind.i64 ↑l.length, Value.int IntKind.i64 ↑j, Value.bool true, Value.int IntKind.i64 ↑j, Value.slice (some ad) l.length c, Value.int IntKind.i64 ↑j, Value.pointer (some (ad.add (j * 11))), Value.pointer (some (ad.add (j * 11))), Value.int IntKind.i64 x.k, Value.bool false, x92, x93, x94, x95, x96, x97, x98, x99, x100, u101, u102, u103, u104, u105, u106, undef, undef, undef, undef, undef, undef, undef, undef, undef, undef, undef, undef, undef, undef, undef, undef, undef], []⟩ ∧ Below wr.heap.size wr w' ∧ (done 0 = true → x93 = Value.slice (some ad) l.length c) ∧ (done 1 = true → x94 = Value.int IntKind.i64 ↑j) ∧ (done 2 = true → x95 = Value.pointer (some (ad.add (j * 11)))) ∧ (done 3 = true → x96 = Value.agg #[Value.int IntKind.i64 x.k, Value.int IntKind.i64 x.id, Value.int IntKind.i64 x.code, Value.string x.t, Value.int IntKind.i64 x.body.k, Value.int IntKind.i64 x.body.i, Value.int IntKind.u64 x.body.b, Value.string x.body.t, Value.slice x.body.A x.body.l.length x.body.c, Value.slice x.cA x.codes.length x.cc, Value.slice x.A x.l.length x.c]) ∧ (done 4 = true → x97 = Value.agg #[Value.int IntKind.i64 t.k, Value.int IntKind.i64 t.id, Value.int IntKind.i64 t.code, Value.string t.t, Value.int IntKind.i64 t.body.k, Value.int IntKind.i64 t.body.i, Value.int IntKind.u64 t.body.b, Value.string t.body.t, Value.slice t.body.A t.body.l.length t.body.c, Value.slice t.cA t.codes.length t.cc, Value.slice t.A t.l.length t.c]) ∧ (done 5 = true → x98 = Value.tuple #[Value.bool z.1, Value.int IntKind.i64 (num z.2)]) ∧ (done 6 = true → x92 = Value.tuple #[Value.bool z.1, Value.int IntKind.i64 (num z.2)]) ∧ (done 7 = true → x99 = Value.bool z.1) ∧ (done 8 = true → x100 = Value.int IntKind.i64 (num z.2)) ∧ (done 9 = true → x10 = Value.bool z.1) ∧ (done 10 = true → x11 = Value.int IntKind.i64 (num z.2))) ?_ ?_ ?_
              · refine ⟨_, _, _, _, _, _, _, _, _, _, _, rfl, (Below.refl _ _).drew, ?_⟩
                simp
              · refine ⟨?_, ?_, ?_, ?_, ?_, ?_, ?_, ?_, ?_, ?_, ?_, trivial⟩
                · rintro done a wx hd he ⟨x10, x11, x92, x93, x94, x95, x96, x97, x98, x99, x100, rfl, hB, i0, i1, i2, i3, i4, i5, i6, i7, i8, i9, i10⟩ hcl K hK
                  refine step_wp rfl (wp_value (Value.slice (some ad) l.length c) (by kernel_rfl) ?_)
                  exact hK _ _ ⟨x10, x11, x92, _, x94, x95, x96, x97, x98, x99, x100, rfl, hB, fun _ => rfl, i1, i2, i3, i4, i5, i6, i7, i8, i9, i10⟩
                · rintro done a wx hd he ⟨x10, x11, x92, x93, x94, x95, x96, x97, x98, x99, x100, rfl, hB, i0, i1, i2, i3, i4, i5, i6, i7, i8, i9, i10⟩ hcl K hK
                  refine step_wp rfl (wp_value (Value.int IntKind.i64 ↑j) (by kernel_rfl) ?_)
                  exact hK _ _ ⟨x10, x11, x92, x93, _, x95, x96, x97, x98, x99, x100, rfl, hB, i0, fun _ => rfl, i2, i3, i4, i5, i6, i7, i8, i9, i10⟩
                · rintro done a wx hd he ⟨x10, x11, x92, x93, x94, x95, x96, x97, x98, x99, x100, rfl, hB, i0, i1, i2, i3, i4, i5, i6, i7, i8, i9, i10⟩ hcl K hK
                  simp [Region.binds] at he
                  obtain rfl := i0 (by simp [he])
                  obtain rfl := i1 (by simp [he])
                  refine step_wp rfl (wp_value (Value.pointer (some (ad.add (j * 11)))) (idx_any _ _ 11 elemE underE sizeE (.tmp 93) (.tmp 94) ad l.length c j hlt _ _ rfl rfl rfl wx) ?_)
                  exact hK _ _ ⟨x10, x11, x92, _, _, _, x96, x97, x98, x99, x100, rfl, hB, fun _ => rfl, fun _ => rfl, fun _ => rfl, i3, i4, i5, i6, i7, i8, i9, i10⟩
                · rintro done a wx hd he ⟨x10, x11, x92, x93, x94, x95, x96, x97, x98, x99, x100, rfl, hB, i0, i1, i2, i3, i4, i5, i6, i7, i8, i9, i10⟩ hcl K hK
                  simp [Region.binds] at he
                  obtain rfl := i2 (by simp [he])
                  refine step_wp rfl (wp_load_at 29 _ rfl (ad.add (j * 11)) rfl _ _ (Hx.out wx hB) uE rfl sizeE ?_)
                  exact hK _ _ ⟨x10, x11, x92, x93, x94, _, _, x97, x98, x99, x100, rfl, hB, i0, i1, fun _ => rfl, fun _ => rfl, i4, i5, i6, i7, i8, i9, i10⟩
                · rintro done a wx hd he ⟨x10, x11, x92, x93, x94, x95, x96, x97, x98, x99, x100, rfl, hB, i0, i1, i2, i3, i4, i5, i6, i7, i8, i9, i10⟩ hcl K hK
                  refine step_wp rfl (wp_load_row 29 _ rfl w.heap.size rfl _ _ _ _ (Ht.out wx hB) uE rfl sizeE ?_)
                  exact hK _ _ ⟨x10, x11, x92, x93, x94, x95, x96, _, x98, x99, x100, rfl, hB, i0, i1, i2, i3, fun _ => rfl, i5, i6, i7, i8, i9, i10⟩
                · rintro done a wx hd he ⟨x10, x11, x92, x93, x94, x95, x96, x97, x98, x99, x100, rfl, hB, i0, i1, i2, i3, i4, i5, i6, i7, i8, i9, i10⟩ hcl K hK
                  simp [Region.binds] at he
                  obtain rfl := i3 (by simp [he])
                  obtain rfl := i4 (by simp [he])
                  refine step_wp rfl (wp_call (f := 17) (args := #[Value.agg #[Value.int IntKind.i64 x.k, Value.int IntKind.i64 x.id, Value.int IntKind.i64 x.code, Value.string x.t, Value.int IntKind.i64 x.body.k, Value.int IntKind.i64 x.body.i, Value.int IntKind.u64 x.body.b, Value.string x.body.t, Value.slice x.body.A x.body.l.length x.body.c, Value.slice x.cA x.codes.length x.cc, Value.slice x.A x.l.length x.c], Value.agg #[Value.int IntKind.i64 t.k, Value.int IntKind.i64 t.id, Value.int IntKind.i64 t.code, Value.string t.t, Value.int IntKind.i64 t.body.k, Value.int IntKind.i64 t.body.i, Value.int IntKind.u64 t.body.b, Value.string t.body.t, Value.slice t.body.A t.body.l.length t.body.c, Value.slice t.cA t.codes.length t.cc, Value.slice t.A t.l.length t.c]]) (by kernel_rfl) (Hc.out wx hB) ?_)
                  rintro en w5 ⟨rfl, hb⟩
                  exact ⟨_, rfl, hK _ _ ⟨x10, x11, x92, x93, x94, x95, _, _, _, x99, x100, rfl, hB.trans (hb.mono hB.size), i0, i1, i2, fun _ => rfl, fun _ => rfl, fun _ => rfl, i6, i7, i8, i9, i10⟩⟩
                · rintro done a wx hd he ⟨x10, x11, x92, x93, x94, x95, x96, x97, x98, x99, x100, rfl, hB, i0, i1, i2, i3, i4, i5, i6, i7, i8, i9, i10⟩ hcl K hK
                  simp [Region.binds] at he
                  obtain rfl := i5 (by simp [he])
                  refine step_wp rfl (wp_value (Value.tuple #[Value.bool z.1, Value.int IntKind.i64 (num z.2)]) (by kernel_rfl) ?_)
                  exact hK _ _ ⟨x10, x11, _, x93, x94, x95, x96, x97, _, x99, x100, rfl, hB, i0, i1, i2, i3, i4, fun _ => rfl, fun _ => rfl, i7, i8, i9, i10⟩
                · rintro done a wx hd he ⟨x10, x11, x92, x93, x94, x95, x96, x97, x98, x99, x100, rfl, hB, i0, i1, i2, i3, i4, i5, i6, i7, i8, i9, i10⟩ hcl K hK
                  simp [Region.binds] at he
                  obtain rfl := i6 (by simp [he])
                  refine step_wp rfl (wp_value (Value.bool z.1) (by kernel_rfl) ?_)
                  exact hK _ _ ⟨x10, x11, _, x93, x94, x95, x96, x97, x98, _, x100, rfl, hB, i0, i1, i2, i3, i4, i5, fun _ => rfl, fun _ => rfl, i8, i9, i10⟩
                · rintro done a wx hd he ⟨x10, x11, x92, x93, x94, x95, x96, x97, x98, x99, x100, rfl, hB, i0, i1, i2, i3, i4, i5, i6, i7, i8, i9, i10⟩ hcl K hK
                  simp [Region.binds] at he
                  obtain rfl := i6 (by simp [he])
                  refine step_wp rfl (wp_value (Value.int IntKind.i64 (num z.2)) (by kernel_rfl) ?_)
                  exact hK _ _ ⟨x10, x11, _, x93, x94, x95, x96, x97, x98, x99, _, rfl, hB, i0, i1, i2, i3, i4, i5, fun _ => rfl, i7, fun _ => rfl, i9, i10⟩
                · rintro done a wx hd he ⟨x10, x11, x92, x93, x94, x95, x96, x97, x98, x99, x100, rfl, hB, i0, i1, i2, i3, i4, i5, i6, i7, i8, i9, i10⟩ hcl K hK
                  simp [Region.binds] at he
                  obtain rfl := i7 (by simp [he])
                  refine step_wp rfl (wp_value (Value.bool z.1) (by kernel_rfl) ?_)
                  exact hK _ _ ⟨_, x11, x92, x93, x94, x95, x96, x97, x98, _, x100, rfl, hB, i0, i1, i2, i3, i4, i5, i6, fun _ => rfl, i8, fun _ => rfl, i10⟩
                · rintro done a wx hd he ⟨x10, x11, x92, x93, x94, x95, x96, x97, x98, x99, x100, rfl, hB, i0, i1, i2, i3, i4, i5, i6, i7, i8, i9, i10⟩ hcl K hK
                  simp [Region.binds] at he
                  obtain rfl := i8 (by simp [he])
                  refine step_wp rfl (wp_value (Value.int IntKind.i64 (num z.2)) (by kernel_rfl) ?_)
                  exact hK _ _ ⟨x10, _, x92, x93, x94, x95, x96, x97, x98, x99, _, rfl, hB, i0, i1, i2, i3, i4, i5, i6, i7, fun _ => rfl, i9, fun _ => rfl⟩
              · rintro done a wx hd ⟨x10, x11, x92, x93, x94, x95, x96, x97, x98, x99, x100, rfl, hB, i0, i1, i2, i3, i4, i5, i6, i7, i8, i9, i10⟩
                have dd : ∀ j, j < 11 → done j = true := fun j h => hd j (by simpa using h)
                obtain rfl := i0 (dd 0 (by omega))
                obtain rfl := i1 (dd 1 (by omega))
                obtain rfl := i2 (dd 2 (by omega))
                obtain rfl := i3 (dd 3 (by omega))
                obtain rfl := i4 (dd 4 (by omega))
                obtain rfl := i5 (dd 5 (by omega))
                obtain rfl := i6 (dd 6 (by omega))
                obtain rfl := i7 (dd 7 (by omega))
                obtain rfl := i8 (dd 8 (by omega))
                obtain rfl := i9 (dd 9 (by omega))
                obtain rfl := i10 (dd 10 (by omega))
                clear i0 i1 i2 i3 i4 i5 i6 i7 i8 i9 i10 dd
                have hbx : Below w6.heap.size w6 wx := hI.out.1.trans (hB.mono hI.out.1.size)
                have Hbx := Lib.hid hbx
                clear hB hbx Hx Ht Hc
                obtain ⟨z1, z2⟩ := z
                have n1 : num true = 10 := rfl
                have n0 : num false = 0 := rfl
                cases z1
                · cases z2
                  · have HN : Hid (Below w6.heap.size w6 wx ∧ E.risL D.req t (l.drop (j + 1)) = r) := ⟨Hbx.out, by rw [← hI.out.2, Hst.out]; rfl⟩
                    clear hI Hst Hbx
                    go_wp2_with fail
                    go_roundg (gk - 1)
                    case measure => omega
                    case rel => exact ⟨j + 1, by go_num, rfl, rfl, by omega, HN⟩
                  · obtain rfl : r = (false, true) := by rw [← hI.out.2, Hst.out]; rfl
                    clear hI Hst n1 n0
                    have H8 : Hid (Below w.heap.size w wx ∧ Blk wx w.heap.size 29 t.cs.toArray ∧ J.In wx ∧ Blk wx w2.heap.size 29 J.cs.toArray) := ⟨HB6.out.1.trans (Below.mono Hbx.out HB6.out.1.size), HB6.out.2.1.to Hbx.out, HB6.out.2.2.1.below Hbx.out, HB6.out.2.2.2.to Hbx.out⟩
                    have bJ := H8.out.2.2.2
                    have bT := H8.out.2.1
                    have c0 := bJ.cell 0
                    have c1 := bJ.cell 1
                    have c2 := bJ.cell 2
                    have c3 := bJ.cell 3
                    have c4 := bJ.cell 4
                    have c5 := bJ.cell 5
                    have c6 := bJ.cell 6
                    have c7 := bJ.cell 7
                    have c8 := bJ.cell 8
                    have c9 := bJ.cell 9
                    have c10 := bJ.cell 10
                    have d0 := bT.cell 0
                    have d1 := bT.cell 1
                    have d2 := bT.cell 2
                    have d3 := bT.cell 3
                    have d4 := bT.cell 4
                    have d5 := bT.cell 5
                    have d6 := bT.cell 6
                    have d7 := bT.cell 7
                    have d8 := bT.cell 8
                    have d9 := bT.cell 9
                    have d10 := bT.cell 10
                    simp [E.cs] at c0 c1 c2 c3 c4 c5 c6 c7 c8 c9 c10 d0 d1 d2 d3 d4 d5 d6 d7 d8 d9 d10
                    clear bJ bT
                    have Hq9 := Lib.hid (HqJ.out _ H8.out.1 H8.out.2.2.1)
                    go_wp2_with fail
                    refine Hq9.out.mono ?_
                    rintro en w9 ⟨rfl, hb9⟩
                    have Hb9 := Lib.hid (H8.out.1.trans (hb9.mono H8.out.1.size))
                    clear hb9 c0 c1 c2 c3 c4 c5 c6 c7 c8 c9 c10 d0 d1 d2 d3 d4 d5 d6 d7 d8 d9 d10 Hq9
                    have n1 : num true = 10 := rfl
                    have n0 : num false = 0 := rfl
                    go_wp2_with fail
                    refine (hA.out _ Hb9.out).mono ?_
                    rintro en wz ⟨rfl, hbz⟩
                    have Hf := Lib.hid (HP.out _ (Below.trans Hb9.out (hbz.mono (Below.size Hb9.out))))
                    clear hbz
                    go_wp2_with fail
                    exact Hf
                · obtain rfl : z2 = false := by
                    cases z2
                    · rfl
                    · exact absurd (Hzs.out rfl) (by simp)
                  obtain rfl : r = (true, false) := by rw [← hI.out.2, Hst.out]; rfl
                  clear hI Hst n1 n0
                  have H8 : Hid (Below w.heap.size w wx ∧ Blk wx w.heap.size 29 t.cs.toArray ∧ J.In wx ∧ Blk wx w2.heap.size 29 J.cs.toArray) := ⟨HB6.out.1.trans (Below.mono Hbx.out HB6.out.1.size), HB6.out.2.1.to Hbx.out, HB6.out.2.2.1.below Hbx.out, HB6.out.2.2.2.to Hbx.out⟩
                  have bJ := H8.out.2.2.2
                  have bT := H8.out.2.1
                  have c0 := bJ.cell 0
                  have c1 := bJ.cell 1
                  have c2 := bJ.cell 2
                  have c3 := bJ.cell 3
                  have c4 := bJ.cell 4
                  have c5 := bJ.cell 5
                  have c6 := bJ.cell 6
                  have c7 := bJ.cell 7
                  have c8 := bJ.cell 8
                  have c9 := bJ.cell 9
                  have c10 := bJ.cell 10
                  have d0 := bT.cell 0
                  have d1 := bT.cell 1
                  have d2 := bT.cell 2
                  have d3 := bT.cell 3
                  have d4 := bT.cell 4
                  have d5 := bT.cell 5
                  have d6 := bT.cell 6
                  have d7 := bT.cell 7
                  have d8 := bT.cell 8
                  have d9 := bT.cell 9
                  have d10 := bT.cell 10
                  simp [E.cs] at c0 c1 c2 c3 c4 c5 c6 c7 c8 c9 c10 d0 d1 d2 d3 d4 d5 d6 d7 d8 d9 d10
                  clear bJ bT
                  have Hq9 := Lib.hid (HqJ.out _ H8.out.1 H8.out.2.2.1)
                  go_wp2_with fail
                  refine Hq9.out.mono ?_
                  rintro en w9 ⟨rfl, hb9⟩
                  have Hb9 := Lib.hid (H8.out.1.trans (hb9.mono H8.out.1.size))
                  clear hb9 c0 c1 c2 c3 c4 c5 c6 c7 c8 c9 c10 d0 d1 d2 d3 d4 d5 d6 d7 d8 d9 d10 Hq9
                  have n1 : num true = 10 := rfl
                  have n0 : num false = 0 := rfl
                  go_wp2_with fail
                  refine (hA.out _ Hb9.out).mono ?_
                  rintro en wz ⟨rfl, hbz⟩
                  have Hf := Lib.hid (HP.out _ (Below.trans Hb9.out (hbz.mono (Below.size Hb9.out))))
                  clear hbz
                  go_wp2_with fail
                  exact Hf
            · obtain rfl : r = (false, false) := by rw [← hI.out.2, List.drop_eq_nil_of_le (by omega), E.risL]
              have Hbx := Lib.hid hI.out.1
              clear hI
              have H8 : Hid (Below w.heap.size w wr ∧ Blk wr w.heap.size 29 t.cs.toArray ∧ J.In wr ∧ Blk wr w2.heap.size 29 J.cs.toArray) := ⟨HB6.out.1.trans (Below.mono Hbx.out HB6.out.1.size), HB6.out.2.1.to Hbx.out, HB6.out.2.2.1.below Hbx.out, HB6.out.2.2.2.to Hbx.out⟩
              have bJ := H8.out.2.2.2
              have bT := H8.out.2.1
              have c0 := bJ.cell 0
              have c1 := bJ.cell 1
              have c2 := bJ.cell 2
              have c3 := bJ.cell 3
              have c4 := bJ.cell 4
              have c5 := bJ.cell 5
              have c6 := bJ.cell 6
              have c7 := bJ.cell 7
              have c8 := bJ.cell 8
              have c9 := bJ.cell 9
              have c10 := bJ.cell 10
              have d0 := bT.cell 0
              have d1 := bT.cell 1
              have d2 := bT.cell 2
              have d3 := bT.cell 3
              have d4 := bT.cell 4
              have d5 := bT.cell 5
              have d6 := bT.cell 6
              have d7 := bT.cell 7
              have d8 := bT.cell 8
              have d9 := bT.cell 9
              have d10 := bT.cell 10
              simp [E.cs] at c0 c1 c2 c3 c4 c5 c6 c7 c8 c9 c10 d0 d1 d2 d3 d4 d5 d6 d7 d8 d9 d10
              clear bJ bT
              have Hq9 := Lib.hid (HqJ.out _ H8.out.1 H8.out.2.2.1)
              go_wp2_with fail
              refine Hq9.out.mono ?_
              rintro en w9 ⟨rfl, hb9⟩
              have Hb9 := Lib.hid (H8.out.1.trans (hb9.mono H8.out.1.size))
              clear hb9 c0 c1 c2 c3 c4 c5 c6 c7 c8 c9 c10 d0 d1 d2 d3 d4 d5 d6 d7 d8 d9 d10 Hq9
              have n1 : num true = 10 := rfl
              have n0 : num false = 0 := rfl
              go_wp2_with fail
              refine (hA.out _ Hb9.out).mono ?_
              rintro en wz ⟨rfl, hbz⟩
              have Hf := Lib.hid (HP.out _ (Below.trans Hb9.out (hbz.mono (Below.size Hb9.out))))
              clear hbz
              go_wp2_with fail
              exact Hf
end Go.Proofs.YtbhmeapnmpgggaaGreatDoor.errsJoins
