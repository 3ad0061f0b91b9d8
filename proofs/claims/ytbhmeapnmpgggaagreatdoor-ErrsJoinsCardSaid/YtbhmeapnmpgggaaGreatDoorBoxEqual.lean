/- datum's equal of two values: the walk. Conditions: the values are those of right Datums, over one map of boxes. -/
import Derived.Test.YtbhmeapnmpgggaaGreatDoorBoxPtr
namespace Go.Proofs.YtbhmeapnmpgggaaGreatDoor
open Go.RowKit Go.Joins

theorem guardAny {m m' : List (Int × Nat)} {a b : D} {x y : Value} (hx : DV m a x) (hy : DV m' b y) (o1 o2 : Nat) : ∀ w, (eqGuard .eql 20 (.tmp o1) (.tmp o2) x y).run Tryz.prog w = .ok () w := by
  intro w
  rcases dvType hx with ⟨_, rfl⟩ | ⟨T, u, rfl, _⟩ <;> rcases dvType hy with ⟨_, rfl⟩ | ⟨T', u', rfl, _⟩
  · kernel_rfl
  · kernel_rfl
  · kernel_rfl
  · kernel_rfl
theorem asPair (v1 v2 : Value) : ∀ w, (Instr.typeAssert (.iface 225 (.agg #[v1, v2])) 20 225 true).run Tryz.prog w = .ok (.tuple #[.agg #[v1, v2], .bool true]) w := fun _ => by kernel_rfl
theorem asNoPair {m : List (Int × Nat)} {a : D} {x : Value} (hx : DV m a x) (h : a.k ≠ 9) : ∀ w, (Instr.typeAssert x 20 225 true).run Tryz.prog w = .ok (.tuple #[.agg #[.nilIface, .nilIface], .bool false]) w := by
  intro w
  cases hx
  case pair => exact absurd rfl h
  all_goals kernel_rfl
/-- what equal of two values does -/
def EqD (r : Bool × Bool) (w : World) (e : Ending) (w' : World) : Prop :=
  Below w.heap.size w w' ∧ if r.2 then ∃ s, e = .panicked [{ v := .iface Tryz.prog.rt.errorString (strVal s), recovered := false }] else e = .returned (.bool r.1)

set_option maxHeartbeats 4000000 in
set_option maxRecDepth 100000 in
theorem equal_flat {a b : D} {va vb : Value} {w : World} {B M : Nat} {m : List (Int × Nat)} (ha : DV m a va) (hb : DV m b vb) (ra : a.right = true) (rb : b.right = true) (hx : Boxes B w M m) (h9 : ¬ (a.k = 9 ∧ b.k = 9)) :
    Calls Tryz.prog 116 #[va, vb] w (EqD (a.req b) w) := by
  have hg := guardAny ha hb 35 36
  have heq := Lib.hid (fun W (h : Below w.heap.size w W) => eqv_run (hx.below h) ha hb ra rb h9)
  have hcases : (a.k = 9 → ∃ v1 v2, va = .iface 225 (.agg #[v1, v2]) ∧ v1.cells = #[v1] ∧ v2.cells = #[v2] ∧ v1.oneCell' = true ∧ v2.oneCell' = true) ∧ (b.k = 9 → ∃ v1 v2, vb = .iface 225 (.agg #[v1, v2]) ∧ v1.cells = #[v1] ∧ v2.cells = #[v2] ∧ v1.oneCell' = true ∧ v2.oneCell' = true) := by
    refine ⟨fun h => ?_, fun h => ?_⟩
    · cases ha <;> simp at h
      case pair h1 h2 => exact ⟨_, _, rfl, h1.cells, h2.cells, h1.one, h2.one⟩
    · cases hb <;> simp at h
      case pair h1 h2 => exact ⟨_, _, rfl, h1.cells, h2.cells, h1.one, h2.one⟩
  have hW : ∀ (o1 o2 : Obj), Below w.heap.size w ((w.alloc o1).alloc o2) := fun o1 o2 => ((Below.refl _ _).alloc (Nat.le_refl _) _).alloc (by simp) _
  have HW := Lib.hid hW
  clear hW
  by_cases h1 : a.k = 9
  · obtain ⟨v1, v2, rfl, c1, c2, o1, o2⟩ := hcases.1 h1
    have t1 := asPair v1 v2
    have t2 := asNoPair hb (fun h => h9 ⟨h1, h⟩)
    have s1 := fun a m w => run_store Tryz.prog w a v1 m o1
    have s2 := fun a m w => run_store Tryz.prog w a v2 m o2
    unfold Value.cells at c1 c2
    have hq := heq.out ((w.alloc (.cells #[v1, v2] 225)).alloc (.cells #[.nilIface, .nilIface] 225)) (HW.out _ _)
    generalize a.req b = r at *
    clear h1 ha hb ra rb hx h9 hcases heq
    obtain ⟨r1, r2⟩ := r
    unfold EqRun at hq
    cases r2
    · simp only [Bool.false_eq_true, if_false] at hq
      go_enter Tryz.func116, Tryz.ntmps116
      go_wp2_with fail
      go_ret
      exact ⟨HW.out _ _, rfl⟩
    · simp only [if_true] at hq
      obtain ⟨s, hq⟩ := hq
      go_enter Tryz.func116, Tryz.ntmps116
      go_wp2_with fail
      exact ⟨rfl, HW.out _ _, s, rfl⟩
  · have t1 := asNoPair ha h1
    by_cases h2 : b.k = 9
    · obtain ⟨v1, v2, rfl, c1, c2, o1, o2⟩ := hcases.2 h2
      have t2 := asPair v1 v2
      have s1 := fun a m w => run_store Tryz.prog w a v1 m o1
      have s2 := fun a m w => run_store Tryz.prog w a v2 m o2
      unfold Value.cells at c1 c2
      have hq := heq.out ((w.alloc (.cells #[.nilIface, .nilIface] 225)).alloc (.cells #[v1, v2] 225)) (HW.out _ _)
      generalize a.req b = r at *
      clear h1 h2 ha hb ra rb hx h9 hcases heq
      obtain ⟨r1, r2⟩ := r
      unfold EqRun at hq
      cases r2
      · simp only [Bool.false_eq_true, if_false] at hq
        go_enter Tryz.func116, Tryz.ntmps116
        go_wp2_with fail
        go_ret
        exact ⟨HW.out _ _, rfl⟩
      · simp only [if_true] at hq
        obtain ⟨s, hq⟩ := hq
        go_enter Tryz.func116, Tryz.ntmps116
        go_wp2_with fail
        exact ⟨rfl, HW.out _ _, s, rfl⟩
    · have t2 := asNoPair hb h2
      have hq := heq.out ((w.alloc (.cells #[.nilIface, .nilIface] 225)).alloc (.cells #[.nilIface, .nilIface] 225)) (HW.out _ _)
      generalize a.req b = r at *
      clear h1 h2 ha hb ra rb hx h9 hcases heq
      obtain ⟨r1, r2⟩ := r
      unfold EqRun at hq
      cases r2
      · simp only [Bool.false_eq_true, if_false] at hq
        go_enter Tryz.func116, Tryz.ntmps116
        go_wp2_with fail
        go_ret
        exact ⟨HW.out _ _, rfl⟩
      · simp only [if_true] at hq
        obtain ⟨s, hq⟩ := hq
        go_enter Tryz.func116, Tryz.ntmps116
        go_wp2_with fail
        exact ⟨rfl, HW.out _ _, s, rfl⟩

theorem D.req_snd : ∀ (n : Nat) (a b : D), a.size ≤ n → (a.req b).2 = true → (a.req b).1 = false := by
  have hL : ∀ (l m : List D), (∀ x ∈ l, ∀ y, (x.req y).2 = true → (x.req y).1 = false) → (D.reqL l m).2 = true → (D.reqL l m).1 = false := by
    intro l
    induction l with
    | nil => intro m _ h; simp [D.reqL] at h
    | cons x l ih =>
      intro m hx h
      cases m with
      | nil => simp [D.reqL] at h
      | cons y m =>
        rw [D.reqL] at h ⊢
        split
        · rfl
        · rename_i h1
          rw [if_neg h1] at h
          split
          · rename_i h2
            rw [if_pos h2] at h
            exact ih m (fun x hx' => hx x (List.mem_cons_of_mem _ hx')) h
          · rfl
  intro n
  induction n with
  | zero => intro a b h; rw [D.size_eq] at h; omega
  | succ n ih =>
    intro a b hn h
    obtain ⟨k, i, bb, t, A, c, l⟩ := a
    have hs : D.sizeL l ≤ n := by simp only [D.size] at hn; omega
    rw [D.req] at h ⊢
    split
    · rfl
    · rename_i h1
      rw [if_neg h1] at h
      split
      · rfl
      · rename_i h2
        rw [if_neg h2] at h
        split
        · rename_i h3; rw [if_pos h3] at h; cases h
        · rename_i h3
          rw [if_neg h3] at h
          split
          · rename_i h4
            rw [if_pos h4] at h
            exact hL _ _ (fun x hx y hxy => by
              obtain ⟨q, hq⟩ := List.getElem?_of_mem hx
              exact ih x y (Nat.le_trans (D.sizeL_le hq) hs) hxy) h
          · rename_i h4; rw [if_neg h4] at h; cases h

set_option maxHeartbeats 4000000 in
set_option maxRecDepth 100000 in
theorem equalD_any (n : Nat) : ∀ (a b : D) (va vb : Value) (w : World) (B M : Nat) (m : List (Int × Nat)), a.size ≤ n → DV m a va → DV m b vb → a.right = true → b.right = true → Boxes B w M m →
    Calls Tryz.prog 116 #[va, vb] w (EqD (a.req b) w) := by
  induction n with
  | zero => intro a _ _ _ _ _ _ _ h; rw [D.size_eq] at h; omega
  | succ n ih =>
    intro a b va vb w B M m hn ha hb ra rb hx
    by_cases h9 : a.k = 9 ∧ b.k = 9
    · cases ha <;> first | (exfalso; have h0 := h9.1; simp at h0; done) | skip
      cases hb <;> first | (exfalso; have h0 := h9.2; simp at h0; done) | skip
      rename_i i1 b1 t1 A1 c1 x1 y1 u1 v1 ha1 ha2 i2 b2 t2 A2 c2 x2 y2 u2 v2 hb1 hb2
      simp only [D.right, D.rightL, Bool.and_eq_true] at ra rb
      simp only [D.size, D.sizeL] at hn
      have hr : (D.mk 9 i1 b1 t1 A1 c1 [x1, y1]).req (D.mk 9 i2 b2 t2 A2 c2 [x2, y2]) = if (x1.req x2).2 then (false, true) else if (x1.req x2).1 then (y1.req y2) else (false, false) := by
        rw [D.req, if_neg (by simp), if_neg (by simp), if_neg (by simp), if_pos rfl]
        simp only [D.l_mk, D.reqL]
        have := D.req_snd _ y1 y2 (Nat.le_refl _)
        generalize y1.req y2 = q at *
        obtain ⟨q1, q2⟩ := q
        cases q1 <;> cases q2 <;> simp at this ⊢
      have H1 := Lib.hid (fun W (h : Below w.heap.size w W) => ih x1 x2 u1 u2 W B M m (by omega) ha1 hb1 ra.2.1 rb.2.1 (hx.below h))
      have H2 := Lib.hid (fun W (h : Below w.heap.size w W) => ih y1 y2 v1 v2 W B M m (by omega) ha2 hb2 ra.2.2.1 rb.2.2.1 (hx.below h))
      have tt1 := asPair u1 v1
      have tt2 := asPair u2 v2
      have q1 := ha1.cells
      have q2 := ha2.cells
      have q3 := hb1.cells
      have q4 := hb2.cells
      unfold Value.cells at q1 q2 q3 q4
      have o1 := ha1.one
      have o2 := ha2.one
      have o3 := hb1.one
      have o4 := hb2.one
      have s1 := fun a m w => run_store Tryz.prog w a u1 m o1
      have s2 := fun a m w => run_store Tryz.prog w a v1 m o2
      have s3 := fun a m w => run_store Tryz.prog w a u2 m o3
      have s4 := fun a m w => run_store Tryz.prog w a v2 m o4
      rw [hr]
      have hW : ∀ W, W = (w.alloc (.cells #[u1, v1] 225)).alloc (.cells #[u2, v2] 225) → Blk W w.heap.size 225 #[u1, v1] ∧ Blk W (w.heap.size + 1) 225 #[u2, v2] ∧ Below w.heap.size w W := fun W h => by
        subst h
        exact ⟨(Blk.new _ _ _).alloc _, Blk.new' (by simp) _ _, ((Below.refl _ _).alloc (Nat.le_refl _) _).alloc (by simp) _⟩
      have HW := Lib.hid hW
      clear hW hr ha1 ha2 hb1 hb2 ra rb hx ih hn h9 o1 o2 o3 o4
      generalize x1.req x2 = r at *
      generalize y1.req y2 = r' at *
      obtain ⟨r1, r2⟩ := r
      obtain ⟨p1, p2⟩ := r'
      by_cases hr2 : r2 = true
      · subst hr2
        show Calls _ _ _ _ (EqD (false, true) w)
        go_enter Tryz.func116, Tryz.ntmps116
        go_upto_region 4 with fail
        obtain ⟨b1, b2, b3⟩ := HW.out _ rfl
        clear HW
        generalize (w.alloc _).alloc _ = W at *
        have d1 := b1.cell 0
        have d2 := b2.cell 0
        simp at d1 d2
        have Hb := Lib.hid (And.intro b1 (And.intro b2 b3))
        have h1 := Lib.hid (H1.out W b3)
        clear b1 b2 b3 s1 s2 s3 s4 tt1 tt2 q1 q2 q3 q4
        go_wp2_with fail
        refine h1.out.mono ?_
        rintro e w1 ⟨hb1, s, rfl⟩
        exact ⟨rfl, Hb.out.2.2.trans (hb1.mono Hb.out.2.2.size), s, rfl⟩
      · obtain rfl : r2 = false := by simpa using hr2
        clear hr2
        cases r1
        · show Calls _ _ _ _ (EqD (false, false) w)
          go_enter Tryz.func116, Tryz.ntmps116
          go_upto_region 4 with fail
          obtain ⟨b1, b2, b3⟩ := HW.out _ rfl
          clear HW
          generalize (w.alloc _).alloc _ = W at *
          have d1 := b1.cell 0
          have d2 := b2.cell 0
          simp at d1 d2
          have Hb := Lib.hid (And.intro b1 (And.intro b2 b3))
          have h1 := Lib.hid (H1.out W b3)
          clear b1 b2 b3 s1 s2 s3 s4 tt1 tt2 q1 q2 q3 q4
          go_wp2_with fail
          refine h1.out.mono ?_
          rintro e w1 ⟨hb1, he⟩
          have he' : e = .returned (.bool false) := he
          clear he
          subst he'
          have hf := Lib.hid (Hb.out.2.2.trans (hb1.mono Hb.out.2.2.size))
          clear hb1 h1 d1 d2
          go_wp2_with fail
          go_ret
          exact ⟨hf.out, rfl⟩
        · show Calls _ _ _ _ (EqD (p1, p2) w)
          go_enter Tryz.func116, Tryz.ntmps116
          go_upto_region 4 with fail
          obtain ⟨b1, b2, b3⟩ := HW.out _ rfl
          clear HW
          generalize (w.alloc _).alloc _ = W at *
          have d1 := b1.cell 0
          have d2 := b2.cell 0
          simp at d1 d2
          have Hb := Lib.hid (And.intro b1 (And.intro b2 b3))
          have h1 := Lib.hid (H1.out W b3)
          clear b1 b2 b3 s1 s2 s3 s4 tt1 tt2 q1 q2 q3 q4
          go_wp2_with fail
          refine h1.out.mono ?_
          rintro e w1 ⟨hb1, he⟩
          have he' : e = .returned (.bool true) := he
          clear he
          subst he'
          have hb := Hb.out.2.2.trans (hb1.mono Hb.out.2.2.size)
          have h2 := Lib.hid (H2.out w1 hb)
          have d3 := (Hb.out.1.below hb1 Hb.out.1.lt).cell 1
          have d4 := (Hb.out.2.1.below hb1 Hb.out.2.1.lt).cell 1
          simp at d3 d4
          have hf := Lib.hid hb
          clear hb1 hb h1 d1 d2 Hb H1 H2
          cases p2
          · go_wp2_with fail
            refine h2.out.mono ?_
            rintro e w2 ⟨hb2, he⟩
            have he' : e = .returned (.bool p1) := he
            clear he
            subst he'
            have hf2 := Lib.hid (hf.out.trans (hb2.mono hf.out.size))
            clear hb2 h2 d3 d4
            go_wp2_with fail
            go_ret
            exact ⟨hf2.out, rfl⟩
          · go_wp2_with fail
            refine h2.out.mono ?_
            rintro e w2 ⟨hb2, s, rfl⟩
            exact ⟨rfl, hf.out.trans (hb2.mono hf.out.size), s, rfl⟩
    · exact equal_flat ha hb ra rb hx h9
end Go.Proofs.YtbhmeapnmpgggaaGreatDoor
