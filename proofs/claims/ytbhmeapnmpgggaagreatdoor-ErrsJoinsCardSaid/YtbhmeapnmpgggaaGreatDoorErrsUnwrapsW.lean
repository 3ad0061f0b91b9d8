/- ErrsUnwraps: the law's walk. Conditions: the tree lies in the world; the sentinel's variable holds a pointer. -/
import Derived.Test.YtbhmeapnmpgggaaGreatDoorBack
import Derived.Test.YtbhmeapnmpgggaaGreatDoorErrsComparesW
namespace Go.Proofs.YtbhmeapnmpgggaaGreatDoor.errsUnwraps
open Go.RowKit Go.Joins errsCompares

theorem E.ok_small : ∀ (e : E), e.right = true → e.size ≤ 4096 → e.wsum ≤ 4096 → e.Small := by
  have key : ∀ n (e : E), e.size ≤ n → e.right = true → e.size ≤ 4096 → e.wsum ≤ 4096 → e.Small := by
    intro n
    induction n with
    | zero => intro e h; have := e.size_eq; omega
    | succ n ih =>
      intro e hn hr hs hw
      have hsz := e.size_eq
      have hlist := E.right_list hr
      have hfit := E.right_fit hr
      have hwe : e.wsum = e.ownN + E.wsumL e.l := by cases e; rw [E.wsum]; rfl
      have hp := E.wsumL_pos e.l
      have hop := e.ownN_pos
      have hown : e.ownN = (e.codes.length : Int) + if e.k = 5 then (e.body.size : Int) else 0 := rfl
      have hL : ∀ l : List E, E.sizeL l ≤ n → E.rightL e.k l = true → E.sizeL l ≤ 4096 → E.wsumL l ≤ 4096 → E.SmallL l ∧ l.length ≤ E.sizeL l := by
        intro l
        induction l with
        | nil => exact fun _ _ _ _ => ⟨trivial, Nat.le_refl _⟩
        | cons x l ihl =>
          intro h1 h2 h3 h4
          rw [E.sizeL] at h1 h3
          rw [E.wsumL] at h4
          rw [E.rightL, Bool.and_eq_true, Bool.and_eq_true] at h2
          have p1 := x.wsum_pos
          have p2 := E.wsumL_pos l
          have p3 := x.size_eq
          obtain ⟨q1, q2⟩ := ihl (by omega) h2.2 (by omega) (by omega)
          refine ⟨⟨ih x (by omega) h2.1.2 (by omega) (by omega), q1⟩, ?_⟩
          rw [List.length_cons, E.sizeL]
          omega
      obtain ⟨q1, q2⟩ := hL e.l (by omega) hlist (by omega) (by omega)
      have hb : e.body.size ≤ 1000000 := by
        by_cases h5 : e.k = 5
        · rw [hown, if_pos h5] at hwe; omega
        · unfold E.fit E.bodyOk at hfit
          rw [Bool.and_eq_true] at hfit
          have h2 := hfit.2
          rw [if_neg (by unfold E.fBody; simpa using h5)] at h2
          have h3 := D.same_bare _ _ h2
          have : e.body.size = D.zero.size := by rw [← D.bare_size, h3, D.bare_size]
          rw [this]
          simp [D.zero, D.size, D.sizeL]
      have hc : e.codes.length ≤ 1000000 := by
        have : (0 : Int) ≤ if e.k = 5 then (e.body.size : Int) else 0 := by split <;> omega
        omega
      have hl : e.l.length ≤ 1000000 := by omega
      cases e
      exact ⟨hb, hc, hl, q1⟩
  exact fun e => key e.size e (Nat.le_refl _)
theorem E.ok_of_small {e : E} (h : e.Ok) : e.Small := E.ok_small e h.2.2.2 h.2.1 h.2.2.1
mutual
theorem E.wsum_bare : ∀ d : E, d.bare.wsum = d.wsum
  | .mk k id code t body cA cc codes A c l => by
    rw [E.bare, E.wsum, E.wsum, E.wsumL_bare l]
    unfold E.ownN
    simp only [E.codes_mk, E.k_mk, E.body_mk, D.bare_size]
    rfl
theorem E.wsumL_bare : ∀ l : List E, E.wsumL (E.bareL l) = E.wsumL l
  | [] => rfl
  | x :: l => by rw [E.bareL, E.wsumL, E.wsumL, E.wsum_bare x, E.wsumL_bare l]
end
theorem E.ok_of {a b : E} (h : a.bare = b.bare) (hb : b.Ok) : a.Ok := by
  refine ⟨by rw [E.depth_of h]; exact hb.1, by rw [E.size_of h]; exact hb.2.1, ?_, E.right_of h hb.2.2.2⟩
  rw [← E.wsum_bare, h, E.wsum_bare]
  exact hb.2.2.1
theorem E.wsumL_at {l : List E} {q : Nat} {x : E} (h : l[q]? = some x) : x.wsum ≤ E.wsumL l := by
  induction l generalizing q with
  | nil => simp at h
  | cons a l ih =>
    have p1 := a.wsum_pos
    have p2 := E.wsumL_pos l
    rw [E.wsumL]
    cases q with
    | zero =>
      have : a = x := by simpa using h
      subst this
      omega
    | succ q => have := ih (q := q) (by simpa using h); omega
theorem Chain.ok {e y : E} {n : Nat} (h : E.Chain e n y) (he : e.Ok) : y.Ok := by
  refine ⟨by have := h.depth; have := he.1; omega, Nat.le_trans h.size he.2.1, ?_, h.right he.2.2.2⟩
  have key : y.wsum ≤ e.wsum := by
    clear he
    induction h with
    | here e => exact Int.le_refl _
    | down h1 _ ih =>
      rename_i e z y n _
      have hw : e.wsum = e.ownN + E.wsumL e.l := by cases e; rw [E.wsum]; rfl
      have := e.ownN_pos
      have := E.wsumL_at h1
      omega
  have := he.2.2.1
  omega

/-- what holds at the head of a round -/
structure UInv (w : World) (g1 : Nat) (e : E) (n : Nat) (X : E) (wr : World) : Prop where
  below : Below w.heap.size w wr
  b0 : Blk wr w.heap.size 29 e.cs.toArray
  b1 : Blk wr g1 29 X.cs.toArray
  hg : w.heap.size < g1
  xin : X.In wr
  chain : X.k ≠ 0 → ∃ y, E.Chain e n y ∧ X.bare = y.bare
  le : n ≤ 16
theorem UInv.to {w : World} {g1 : Nat} {e : E} {n : Nat} {X : E} {wr w' : World} (h : UInv w g1 e n X wr) (hb : Below wr.heap.size wr w') : UInv w g1 e n X w' :=
  ⟨h.below.trans (hb.mono h.below.size), h.b0.to hb, h.b1.to hb, h.hg, h.xin.below hb, h.chain, h.le⟩
theorem UInv.ok {w : World} {g1 : Nat} {e : E} {n : Nat} {X : E} {wr : World} (h : UInv w g1 e n X wr) (he : e.Ok) (h0 : X.k ≠ 0) : X.Ok ∧ n ≤ 15 := by
  obtain ⟨y, h1, h2⟩ := h.chain h0
  refine ⟨E.ok_of h2 (Chain.ok h1 he), ?_⟩
  have := h1.depth
  have := he.1
  have := y.depth_pos
  omega
theorem UInv.next {w : World} {g1 : Nat} {e : E} {n : Nat} {X X' : E} {wr w1 : World} (h : UInv w g1 e n X wr) (he : e.Ok) (h0 : X.k ≠ 0) (hb : Below wr.heap.size wr w1) (hin : X'.In w1) (hbare : X'.bare = X.unw.bare) (hall : X'.All (wr.heap.size ≤ ·)) {w2 : World}
    (h2 : ∀ k, k ≠ g1 → w2.heap[k]? = w1.heap[k]?) (h3 : Blk w2 g1 29 X'.cs.toArray) (h4 : Below g1 w1 w2) : UInv w g1 e (n + 1) X' w2 := by
  have hlt := h.b1.lt
  have hg := h.hg
  refine ⟨(h.below.trans (hb.mono h.below.size)).trans (h4.mono (by omega)), (h.b0.to hb).below h4 hg, h3, hg, hin.turn (P := (wr.heap.size ≤ ·)) (fun k hk => h2 k (by omega)) hall, ?_, ?_⟩
  · intro hk
    obtain ⟨y, hy1, hy2⟩ := h.chain h0
    have hku : X.unw.k ≠ 0 := by rw [← E.k_of hbare]; exact hk
    unfold E.unw at hku hbare
    by_cases h38 : X.k = 3 ∨ X.k = 8
    · rw [if_pos h38] at hku hbare
      cases hl : X.l with
      | nil => rw [hl] at hku; exact absurd rfl hku
      | cons z l =>
        rw [hl] at hbare
        obtain ⟨zy, hz1, hz2⟩ := E.bareL_at (E.list_of hy2) (q := 0) (x := z) (by rw [hl]; rfl)
        exact ⟨zy, hy1.snoc hz1, hbare.trans hz2⟩
    · rw [if_neg h38] at hku
      exact absurd rfl hku
  · have := (h.ok he h0).2
    omega
/-- a chain's error that is equal to itself is found, or == panics ahead of it -/
theorem found {w : World} {e : E} {n : Nat} {X : E} {wr : World} {g1 : Nat} (h : UInv w g1 e n X wr) (he : e.Ok) (h0 : X.k ≠ 0) (he0 : e.k ≠ 0) (hs : E.eqr D.req X X = (true, false)) (hf : (E.isR D.req e X).2 = false) : (E.isR D.req e X).1 = true := by
  obtain ⟨y, h1, h2⟩ := h.chain h0
  have hr := E.chain_ris X hs h1 h2.symm he.2.2.2 h0
  unfold E.isR at hf ⊢
  rw [if_neg (by omega), isr_ris D.req X (fun e => eqr_snd e X)] at hf ⊢
  rw [hf, Bool.or_false] at hr
  exact hr
theorem two_one {a b : Bool} {w : World} {e : Ending} {w2 : World} (h : Two a b w e w2) : e = .returned (.tuple #[.bool a, .int .i64 (num b)]) := h.1

set_option maxHeartbeats 4000000 in
set_option maxRecDepth 100000 in
theorem law (u : Addr) (e : E) (w : World) (he : e.In w) (hs : Sen u w) : Calls Tryz.prog 6 #[e.v] w (Ret (.bool true) w) := by
  have hv1 := Lib.hid (fun W (h : Below w.heap.size w W) => validE1_any e W (he.below h))
  have hA := Lib.hid (fun W (h : Below w.heap.size w W) => awakeE_any u W (hs.below h))
  have HI := Lib.hid (And.intro he hs)
  have HP : Hid (∀ w', Below w.heap.size w w' → Ret (.bool true) w (.returned (.bool true)) w') := Lib.hid fun w' h => ⟨rfl, h⟩
  have hW : ∀ W, W = w.alloc (.cells e.cs.toArray 29) → Blk W w.heap.size 29 e.cs.toArray ∧ Below w.heap.size w W ∧ W.heap.size = w.heap.size + 1 := fun W h => by
    subst h
    exact ⟨Blk.new _ _ _, (Below.refl _ _).alloc (Nat.le_refl _) _, by simp⟩
  have HW := Lib.hid hW
  have HV : Hid (e.valid1 = true → e.Ok) := Lib.hid fun h => (E.valid1_iff e).1 h
  clear hW he hs
  generalize e.valid1 = ve at *
  simp only [E.v, E.cs] at HW hv1 ⊢
  generalize Ret (.bool true) w = R at *
  go_enter Tryz.func6, Tryz.ntmps6
  go_upto_region 1 with fail
  obtain ⟨b1, b2, b3⟩ := HW.out _ rfl
  clear HW
  generalize w.alloc _ = W at *
  have HB := Lib.hid (And.intro b1 (And.intro b2 b3))
  have c0 := b1.cell 0
  have c1 := b1.cell 1
  have c2 := b1.cell 2
  have c3 := b1.cell 3
  have c4 := b1.cell 4
  have c5 := b1.cell 5
  have c6 := b1.cell 6
  have c7 := b1.cell 7
  have c8 := b1.cell 8
  have c9 := b1.cell 9
  have c10 := b1.cell 10
  simp at c0 c1 c2 c3 c4 c5 c6 c7 c8 c9 c10
  clear b1 b2 b3
  by_cases hk : e.k = 0
  · have hk1 : (e.k == 0) = true := by simpa using hk
    clear hk
    cases ve
    all_goals
      go_wp2_with fail
      refine (hv1.out _ HB.out.2.1).mono ?_
      rintro en w1 ⟨rfl, hb⟩
      have HB1 := Lib.hid (show Blk w1 w.heap.size 29 _ ∧ Below w.heap.size w w1 from ⟨HB.out.1.to hb, HB.out.2.1.trans (hb.mono HB.out.2.1.size)⟩)
      clear hb c0 c1 c2 c3 c4 c5 c6 c7 c8 c9 c10
      have c0 := HB1.out.1.cell 0
      simp at c0
      go_wp2_with fail
      refine (hA.out _ HB1.out.2).mono ?_
      rintro en w2 ⟨rfl, hb⟩
      have Hf := Lib.hid (HP.out _ (HB1.out.2.trans (hb.mono HB1.out.2.size)))
      clear hb c0
      go_wp2_with fail
      exact Hf
  have hk1 : (e.k == 0) = false := by simpa using hk
  have Hk0 := Lib.hid hk
  clear hk
  cases ve
  · go_wp2_with fail
    refine (hv1.out _ HB.out.2.1).mono ?_
    rintro en w1 ⟨rfl, hb⟩
    have HB1 := Lib.hid (show Blk w1 w.heap.size 29 _ ∧ Below w.heap.size w w1 from ⟨HB.out.1.to hb, HB.out.2.1.trans (hb.mono HB.out.2.1.size)⟩)
    clear hb c0 c1 c2 c3 c4 c5 c6 c7 c8 c9 c10
    go_wp2_with fail
    refine (hA.out _ HB1.out.2).mono ?_
    rintro en w2 ⟨rfl, hb⟩
    have Hf := Lib.hid (HP.out _ (HB1.out.2.trans (hb.mono HB1.out.2.size)))
    clear hb
    go_wp2_with fail
    exact Hf
  have hOk := Lib.hid (HV.out rfl)
  go_wp2_with fail
  refine (hv1.out _ HB.out.2.1).mono ?_
  rintro en w1 ⟨rfl, hb⟩
  have HB1 := Lib.hid (show Blk w1 w.heap.size 29 _ ∧ Below w.heap.size w w1 from ⟨HB.out.1.to hb, HB.out.2.1.trans (hb.mono HB.out.2.1.size)⟩)
  have hz1 : w.heap.size < w1.heap.size := HB1.out.1.lt
  clear hb c0 c1 c2 c3 c4 c5 c6 c7 c8 c9 c10
  have b1 := HB1.out.1
  have c0 := b1.cell 0
  have c1 := b1.cell 1
  have c2 := b1.cell 2
  have c3 := b1.cell 3
  have c4 := b1.cell 4
  have c5 := b1.cell 5
  have c6 := b1.cell 6
  have c7 := b1.cell 7
  have c8 := b1.cell 8
  have c9 := b1.cell 9
  have c10 := b1.cell 10
  simp at c0 c1 c2 c3 c4 c5 c6 c7 c8 c9 c10
  clear b1
  have HU0 : Hid (UInv w w1.heap.size e 0 e (w1.alloc (.cells e.cs.toArray 29))) := Lib.hid (by
    have hal := (Below.refl w1.heap.size w1).alloc (Nat.le_refl _) (.cells e.cs.toArray 29)
    exact ⟨HB1.out.2.trans (hal.mono HB1.out.2.size), HB1.out.1.to hal, Blk.new _ _ _, hz1, (HI.out.1.below HB1.out.2).below hal, fun _ => ⟨e, .here e, rfl⟩, by omega⟩)
  simp only [E.cs] at HU0
  go_wp2_with fail
  clear c0 c1 c2 c3 c4 c5 c6 c7 c8 c9 c10 HB
  go_loopg [4] 17 (fun gk i wr => ∃ (n : Nat) (X : E), i = .int .i64 n ∧ n + gk = 17 ∧ Hid (UInv w w1.heap.size e n X wr))
  case atStart => exact ⟨0, e, rfl, by omega, HU0⟩
  case round =>
    clear HU0
    obtain ⟨n, X, rfl, hn, hU⟩ := hrel
    have bx := hU.out.b1
    have d0 := bx.cell 0
    have d1 := bx.cell 1
    have d2 := bx.cell 2
    have d3 := bx.cell 3
    have d4 := bx.cell 4
    have d5 := bx.cell 5
    have d6 := bx.cell 6
    have d7 := bx.cell 7
    have d8 := bx.cell 8
    have d9 := bx.cell 9
    have d10 := bx.cell 10
    simp [E.cs] at d0 d1 d2 d3 d4 d5 d6 d7 d8 d9 d10
    clear bx
    have bx := hU.out.b1
    by_cases hXk : X.k = 0
    · have hX0 : (X.k != 0) = false := by simpa using hXk
      clear hXk bx
      have Hb := Lib.hid hU.out.below
      go_wp2_with fail
      refine (hA.out _ Hb.out).mono ?_
      rintro en w2 ⟨rfl, hb⟩
      have Hf := Lib.hid (HP.out _ (Hb.out.trans (hb.mono Hb.out.size)))
      clear hb d0 d1 d2 d3 d4 d5 d6 d7 d8 d9 d10
      go_wp2_with fail
      exact Hf
    · have hX0 : (X.k != 0) = true := by simpa using hXk
      have hok := hU.out.ok hOk.out hXk
      have hn15 : n ≤ 15 := hok.2
      have HX := Lib.hid (And.intro hXk hok.1)
      have hg16 : decide ((n : Int) > 16) = false := by simp; omega
      clear hXk hok bx
      have Hq1 : Hid (∀ W, Below wr.heap.size wr W → Calls Tryz.prog 13 #[X.v, X.v] W (Two (E.eqr D.req X X).1 (E.eqr D.req X X).2 W)) := Lib.hid fun W h =>
        (errEqual_any u X X W (hU.out.xin.below h) (hU.out.xin.below h) HX.out.2.2.2.2 HX.out.2.2.2.2 (HI.out.2.below (hU.out.below.trans (h.mono hU.out.below.size)))).mono (two_cmp (eqr_snd X X))
      have Hq2 : Hid (∀ W, Below wr.heap.size wr W → Calls Tryz.prog 17 #[e.v, X.v] W (Two (E.isR D.req e X).1 (E.isR D.req e X).2 W)) := Lib.hid fun W h =>
        (isE_any D.req u e X W (HI.out.1.below (hU.out.below.trans (h.mono hU.out.below.size))) (hU.out.xin.below h) hOk.out.2.2.2 HX.out.2.2.2.2 hOk.out.2.1 (HI.out.2.below (hU.out.below.trans (h.mono hU.out.below.size))) (fun _ => dEq)).mono (two_cmp (isR_snd e X))
      have Hq3 : Hid (∀ W, Below wr.heap.size wr W → Calls Tryz.prog 25 #[X.v] W (E.New X.unw W)) := Lib.hid fun W h => errsUnwrap_any X W (hU.out.xin.below h) HX.out.2.2.2.2 (E.ok_of_small HX.out.2)
      have Hfd : Hid (E.eqr D.req X X = (true, false) → (E.isR D.req e X).2 = false → (E.isR D.req e X).1 = true) := Lib.hid fun h1 h2 => found hU.out hOk.out HX.out.1 Hk0.out h1 h2
      have hq2 := isR_snd e X
      have hq1 := eqr_snd X X
      generalize E.eqr D.req X X = q at *
      generalize E.isR D.req e X = r at *
      obtain ⟨qa, qb⟩ := q
      obtain ⟨ra, rb⟩ := r
      have Hq12 := Lib.hid (And.intro hq1 hq2)
      clear hq1 hq2
      simp only [E.v, E.cs] at Hq1 Hq2 Hq3
      go_wp2_with fail
      refine (Hq1.out _ (Below.refl _ _)).mono ?_
      rintro en w2 ⟨rfl, hb2⟩
      have Hb2 := Lib.hid hb2
      have H2 : Hid (UInv w w1.heap.size e n X w2) := hU.out.to hb2
      clear hb2 d0 d1 d2 d3 d4 d5 d6 d7 d8 d9 d10 Hq1
      have bx := H2.out.b1
      have b0 := H2.out.b0
      have c0 := b0.cell 0
      have c1 := b0.cell 1
      have c2 := b0.cell 2
      have c3 := b0.cell 3
      have c4 := b0.cell 4
      have c5 := b0.cell 5
      have c6 := b0.cell 6
      have c7 := b0.cell 7
      have c8 := b0.cell 8
      have c9 := b0.cell 9
      have c10 := b0.cell 10
      have d0 := bx.cell 0
      have d1 := bx.cell 1
      have d2 := bx.cell 2
      have d3 := bx.cell 3
      have d4 := bx.cell 4
      have d5 := bx.cell 5
      have d6 := bx.cell 6
      have d7 := bx.cell 7
      have d8 := bx.cell 8
      have d9 := bx.cell 9
      have d10 := bx.cell 10
      simp [E.cs] at c0 c1 c2 c3 c4 c5 c6 c7 c8 c9 c10 d0 d1 d2 d3 d4 d5 d6 d7 d8 d9 d10
      clear bx b0
      go_wp2_with fail
      refine (Hq2.out _ Hb2.out).mono ?_
      rintro en w3 ⟨rfl, hb3⟩
      have Hb3 := Lib.hid (Hb2.out.trans (hb3.mono Hb2.out.size))
      have H3 : Hid (UInv w w1.heap.size e n X w3) := H2.out.to hb3
      clear hb3 c0 c1 c2 c3 c4 c5 c6 c7 c8 c9 c10 d0 d1 d2 d3 d4 d5 d6 d7 d8 d9 d10 Hq2 H2 Hb2
      have bx := H3.out.b1
      have d0 := bx.cell 0
      have d1 := bx.cell 1
      have d2 := bx.cell 2
      have d3 := bx.cell 3
      have d4 := bx.cell 4
      have d5 := bx.cell 5
      have d6 := bx.cell 6
      have d7 := bx.cell 7
      have d8 := bx.cell 8
      have d9 := bx.cell 9
      have d10 := bx.cell 10
      simp [E.cs] at d0 d1 d2 d3 d4 d5 d6 d7 d8 d9 d10
      clear bx
      have n1 : num true = 10 := rfl
      have n0 : num false = 0 := rfl
      have hcase : (qb = true ∧ qa = false) ∨ (qb = false ∧ qa = false) ∨ (qb = false ∧ qa = true ∧ rb = true ∧ ra = false) ∨ (qb = false ∧ qa = true ∧ rb = false ∧ ra = true) := by
        have h1 := Hq12.out.1
        have h2 := Hq12.out.2
        have h3 := Hfd.out
        clear n1 n0 hX0 hg16 hk1
        revert h1 h2 h3
        cases qa <;> cases qb <;> cases ra <;> cases rb <;> simp
      have tail : Hid (∀ (a : Act), True) := Lib.hid fun _ => trivial
      clear tail Hq12 Hfd
      rcases hcase with ⟨rfl, rfl⟩ | ⟨rfl, rfl⟩ | ⟨rfl, rfl, rfl, rfl⟩ | ⟨rfl, rfl, rfl, rfl⟩
      all_goals
        go_upto_region 13 with fail
        go_wp2_with fail
        refine (Hq3.out _ Hb3.out).mono ?_
        rintro en w4 ⟨X', rfl, k1, k2, k3, k4⟩
        have hall : X'.All (wr.heap.size ≤ ·) := k3.mono fun g hg => Nat.le_trans Hb3.out.size hg
        have B3 := H3.out.b1.to k4
        have Hnx : Hid (∀ w5, (∀ k, k ≠ w1.heap.size → w5.heap[k]? = w4.heap[k]?) → Blk w5 w1.heap.size 29 X'.cs.toArray → Below w1.heap.size w4 w5 → UInv w w1.heap.size e (n + 1) X' w5) := Lib.hid fun w5 h1 h2 h3 =>
          hU.out.next hOk.out HX.out.1 (Hb3.out.trans (k4.mono Hb3.out.size)) k1 k2 hall h1 h2 h3
        have HB3 := Lib.hid B3
        clear d0 d1 d2 d3 d4 d5 d6 d7 d8 d9 d10 k1 k2 k3 k4 hall Hq3
        have d0 := B3.cell 0
        have d1 := B3.cell 1
        have d2 := B3.cell 2
        have d3 := B3.cell 3
        have d4 := B3.cell 4
        have d5 := B3.cell 5
        have d6 := B3.cell 6
        have d7 := B3.cell 7
        have d8 := B3.cell 8
        have d9 := B3.cell 9
        have d10 := B3.cell 10
        have f0 := B3.frozen 0
        have f1 := B3.frozen 1
        have f2 := B3.frozen 2
        have f3 := B3.frozen 3
        have f4 := B3.frozen 4
        have f5 := B3.frozen 5
        have f6 := B3.frozen 6
        have f7 := B3.frozen 7
        have f8 := B3.frozen 8
        have f9 := B3.frozen 9
        have f10 := B3.frozen 10
        simp [E.cs] at d0 d1 d2 d3 d4 d5 d6 d7 d8 d9 d10
        clear B3
        simp only [E.v, E.cs]
        go_wp2_with fail
        go_roundg (gk - 1)
        case measure => omega
        case rel =>
          refine ⟨n + 1, X', by go_num, by omega, Hnx.out _ ?_ ?_ ?_⟩
          · intro k hk
            repeat rw [Below.heap_setCell _ _ _ _ (by show k ≠ w1.heap.size; exact hk)]
          · have := ((((((((((HB3.out.set_ 0 (.int .i64 X'.k)).set_ 1 (.int .i64 X'.id)).set_ 2 (.int .i64 X'.code)).set_ 3 (.string X'.t)).set_ 4 (.int .i64 X'.body.k)).set_ 5 (.int .i64 X'.body.i)).set_ 6 (.int .u64 X'.body.b)).set_ 7 (.string X'.body.t)).set_ 8 (.slice X'.body.A X'.body.l.length X'.body.c)).set_ 9 (.slice X'.cA X'.codes.length X'.cc)).set_ 10 (.slice X'.A X'.l.length X'.c)
            simpa [E.cs] using this
          · iterate 11 refine Below.setCell ?_ (by simp) _
            exact Below.refl _ _
end Go.Proofs.YtbhmeapnmpgggaaGreatDoor.errsUnwraps
