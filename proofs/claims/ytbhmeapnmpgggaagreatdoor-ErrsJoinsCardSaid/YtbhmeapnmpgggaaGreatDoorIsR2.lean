/- is, Is of layer 35: any tree; the recursion is the walk's. Conditions: both errors lie in the world and are right. -/
import Derived.Test.YtbhmeapnmpgggaaGreatDoorIsR
import Derived.Test.YtbhmeapnmpgggaaGreatDoorIs3
namespace Go.Proofs.YtbhmeapnmpgggaaGreatDoor
open Go.RowKit Go.Joins

set_option maxHeartbeats 1000000 in
set_option maxRecDepth 100000 in
theorem isR_nil (bq : D → D → Bool × Bool) (e t : E) (w : World) (h0 : e.k = 0) :
    Calls Tryz.prog 58 #[e.v, t.v] w (ReqP (E.ris bq t e) w) := by
  have hr : E.ris bq t e = (false, false) := by rw [E.ris_eq, if_pos h0]
  have hW : ∀ W, W = ((w.alloc (.cells e.cs.toArray 29)).alloc (.cells t.cs.toArray 29)) → Below w.heap.size w W := fun W h => by
    subst h
    exact two_alloc _ _ _
  have HW := Lib.hid hW
  clear hW
  rw [hr]
  clear hr
  simp only [E.v, E.cs] at HW ⊢
  generalize e.k = f0, e.id = f1, e.code = f2, e.t = f3, e.body.k = f4, e.body.i = f5, e.body.b = f6, e.body.t = f7, e.body.A = f8, e.body.l.length = f9, e.body.c = f10, e.cA = f11, e.codes.length = f12, e.cc = f13, e.A = f14, e.l.length = f15, e.c = f16 at *
  generalize t.k = g0, t.id = g1, t.code = g2, t.t = g3, t.body.k = g4, t.body.i = g5, t.body.b = g6, t.body.t = g7, t.body.A = g8, t.body.l.length = g9, t.body.c = g10, t.cA = g11, t.codes.length = g12, t.cc = g13, t.A = g14, t.l.length = g15, t.c = g16 at *
  subst h0
  go_enter Tryz.func58, Tryz.ntmps58
  go_wp2_with fail
  go_ret2
  exact .mk (HW.out _ rfl) rfl rfl

theorem isR1_any (t : E) (htr : t.right = true) (n : Nat) : ∀ (e : E) (w : World), e.size ≤ n → e.In w → t.In w → e.right = true → Calls Tryz.prog 58 #[e.v, t.v] w (ReqP (E.ris D.req t e) w) := by
  induction n with
  | zero => intro e w h; rw [E.size_eq] at h; omega
  | succ n ih =>
    intro e w hn he ht her
    by_cases h0 : e.k = 0
    · exact isR_nil D.req e t w h0
    · exact isR_step n e t w (by rw [E.size_eq] at hn; omega) he ht her htr h0 ih

def codeOf (r : Bool × Bool) : Bool × Nat := (r.1, if r.2 then 2 else if r.1 then 1 else 0)
theorem codeOf_zero (r : Bool × Bool) (h : r.2 = true → r.1 = false) : ((codeOf r).2 = 0) ↔ (r.1 || r.2) = false := by
  obtain ⟨a, b⟩ := r
  cases a <;> cases b <;> simp_all [codeOf]
theorem st_code (bq : D → D → Bool × Bool) (t : E) (hq : ∀ e : E, (E.eqr bq e t).2 = true → (E.eqr bq e t).1 = false) (e : E) (way : List Int) : stIs bq t false e way = codeOf (if t.k ≠ 6 ∧ ((E.eqr bq e t).1 || (E.eqr bq e t).2) = true then E.eqr bq e t else if (decide (e.k = 8) && e.saysC t) = true then (true, false) else (false, false)) := by
  have h := hq e
  unfold stIs codeOf
  generalize E.eqr bq e t = r at *
  obtain ⟨a, b⟩ := r
  by_cases h6 : t.k = 6
  · by_cases h8 : e.k = 8
    · cases e.saysC t <;> simp [h6, h8]
    · simp [h6, h8]
  · by_cases h8 : e.k = 8
    · cases a <;> cases b <;> cases e.saysC t <;> simp_all
    · cases a <;> cases b <;> simp_all
mutual
theorem ris_snd (bq : D → D → Bool × Bool) (t : E) (hq : ∀ e : E, (E.eqr bq e t).2 = true → (E.eqr bq e t).1 = false) : ∀ e : E, (E.ris bq t e).2 = true → (E.ris bq t e).1 = false
  | .mk k id code tt body cA cc codes A c l => by
    rw [E.ris_eq]
    split
    · simp
    · split
      · exact hq _
      · split
        · simp
        · exact risL_snd bq t hq l
theorem risL_snd (bq : D → D → Bool × Bool) (t : E) (hq : ∀ e : E, (E.eqr bq e t).2 = true → (E.eqr bq e t).1 = false) : ∀ l : List E, (E.risL bq t l).2 = true → (E.risL bq t l).1 = false
  | [] => by rw [E.risL]; simp
  | x :: l => by
    rw [E.risL]
    split
    · exact ris_snd bq t hq x
    · exact risL_snd bq t hq l
end
mutual
theorem ris_walk (bq : D → D → Bool × Bool) (t : E) (hq : ∀ e : E, (E.eqr bq e t).2 = true → (E.eqr bq e t).1 = false) : ∀ (e : E) (way : List Int), e.walk (stIs bq t) way false = codeOf (E.ris bq t e)
  | .mk k id code tt body cA cc codes A c l, way => by
    rw [E.ris_eq, E.walk, st_code bq t hq]
    by_cases h0 : k = 0
    · rw [if_pos h0, if_pos (show (E.mk k id code tt body cA cc codes A c l).k = 0 from h0)]; rfl
    · rw [if_neg h0, if_neg (show ¬ (E.mk k id code tt body cA cc codes A c l).k = 0 from h0)]
      have h := hq (E.mk k id code tt body cA cc codes A c l)
      generalize hr : E.eqr bq (E.mk k id code tt body cA cc codes A c l) t = r at *
      by_cases h1 : t.k ≠ 6 ∧ (r.1 || r.2) = true
      · simp only [if_pos h1]
        have : ¬ (codeOf r).2 = 0 := fun e => by rw [codeOf_zero r h] at e; rw [e] at h1; exact absurd h1.2 (by simp)
        rw [if_neg this]
      · simp only [if_neg h1]
        split
        · rw [if_neg (by simp [codeOf])]
        · rw [if_pos (by simp [codeOf])]
          exact risL_walk bq t hq l 0 way
theorem risL_walk (bq : D → D → Bool × Bool) (t : E) (hq : ∀ e : E, (E.eqr bq e t).2 = true → (E.eqr bq e t).1 = false) : ∀ (l : List E) (j : Nat) (way : List Int), E.walkL (stIs bq t) l j way false = codeOf (E.risL bq t l)
  | [], j, way => by rw [E.walkL, E.risL]; rfl
  | x :: l, j, way => by
    rw [E.walkL, E.risL, ris_walk bq t hq x]
    have hz := codeOf_zero _ (ris_snd bq t hq x)
    by_cases h : ((E.ris bq t x).1 || (E.ris bq t x).2) = true
    · rw [if_pos h, if_neg (fun e => by rw [hz.1 e] at h; exact absurd h (by simp))]
    · have h' : ((E.ris bq t x).1 || (E.ris bq t x).2) = false := by simpa using h
      rw [if_neg h, if_pos (hz.2 h')]
      have : (codeOf (E.ris bq t x)).1 = false := by
        have := h'
        simp at this
        simp [codeOf, this.1]
      rw [this]
      exact risL_walk bq t hq l (j + 1) way
end
theorem isr_ris (bq : D → D → Bool × Bool) (t : E) (hq : ∀ e : E, (E.eqr bq e t).2 = true → (E.eqr bq e t).1 = false) (e : E) : e.isr bq t = E.ris bq t e := by
  unfold E.isr
  rw [ris_walk bq t hq]
  generalize E.ris bq t e = r
  obtain ⟨a, b⟩ := r
  cases a <;> cases b <;> rfl

theorem eqr_snd (e t : E) : (E.eqr D.req e t).2 = true → (E.eqr D.req e t).1 = false := by
  have hr : E.eqr D.req e t = if e.k ≠ t.k then (false, false) else if e.k = 1 ∨ e.k = 10 then (decide (e.code = t.code) && decide (e.t = t.t), false) else if e.k = 5 then D.req e.body t.body else if e.k = 6 then (false, true) else (decide (e.id = t.id), false) := rfl
  rw [hr]
  by_cases h1 : e.k ≠ t.k
  · rw [if_pos h1]; exact fun _ => rfl
  · rw [if_neg h1]
    by_cases h2 : e.k = 1 ∨ e.k = 10
    · rw [if_pos h2]; exact fun h => absurd h (by simp)
    · rw [if_neg h2]
      by_cases h3 : e.k = 5
      · rw [if_pos h3]; exact D.req_snd _ _ _ (Nat.le_refl _)
      · rw [if_neg h3]
        by_cases h4 : e.k = 6
        · rw [if_pos h4]; exact fun _ => rfl
        · rw [if_neg h4]; exact fun h => absurd h (by simp)

set_option maxHeartbeats 1000000 in
set_option maxRecDepth 100000 in
theorem isR_any (e t : E) (w : World) (he : e.In w) (ht : t.In w) (her : e.right = true) (htr : t.right = true) :
    Calls Tryz.prog 18 #[e.v, t.v] w (ReqP (E.isR D.req e t) w) := by
  have hIs := Lib.hid (fun W (h : Below w.heap.size w W) => isR1_any t htr e.size e W (Nat.le_refl _) (he.below h) (ht.below h) her)
  have hr : E.isR D.req e t = if e.k = 0 ∨ t.k = 0 then (decide (e.k = 0) && decide (t.k = 0), false) else E.ris D.req t e := by
    unfold E.isR
    rw [isr_ris D.req t (fun e => eqr_snd e t)]
  have hW : ∀ W, W = ((w.alloc (.cells e.cs.toArray 29)).alloc (.cells t.cs.toArray 29)) → Blk W w.heap.size 29 e.cs.toArray ∧ Blk W (w.heap.size + 1) 29 t.cs.toArray ∧ Below w.heap.size w W := fun W h => by
    subst h
    exact ⟨(Blk.new _ _ _).alloc _, Blk.new' (by simp) _ _, two_alloc _ _ _⟩
  have HW := Lib.hid hW
  have Hr := Lib.hid hr
  clear hW hr he ht her htr
  generalize E.isR D.req e t = r at *
  generalize E.ris D.req t e = q at *
  simp only [E.v, E.cs] at HW hIs ⊢
  generalize e.k = f0, e.id = f1, e.code = f2, e.t = f3, e.body.k = f4, e.body.i = f5, e.body.b = f6, e.body.t = f7, e.body.A = f8, e.body.l.length = f9, e.body.c = f10, e.cA = f11, e.codes.length = f12, e.cc = f13, e.A = f14, e.l.length = f15, e.c = f16 at *
  generalize t.k = g0, t.id = g1, t.code = g2, t.t = g3, t.body.k = g4, t.body.i = g5, t.body.b = g6, t.body.t = g7, t.body.A = g8, t.body.l.length = g9, t.body.c = g10, t.cA = g11, t.codes.length = g12, t.cc = g13, t.A = g14, t.l.length = g15, t.c = g16 at *
  go_enter Tryz.func18, Tryz.ntmps18
  go_upto_region 1 with fail
  obtain ⟨b1, b2, b3⟩ := HW.out _ rfl
  clear HW
  generalize (w.alloc _).alloc _ = W at *
  have c0 := b1.cell 0
  have d0 := b2.cell 0
  have c1 := b1.cell 1
  have d1 := b2.cell 1
  have c2 := b1.cell 2
  have d2 := b2.cell 2
  have c3 := b1.cell 3
  have d3 := b2.cell 3
  have c4 := b1.cell 4
  have d4 := b2.cell 4
  have c5 := b1.cell 5
  have d5 := b2.cell 5
  have c6 := b1.cell 6
  have d6 := b2.cell 6
  have c7 := b1.cell 7
  have d7 := b2.cell 7
  have c8 := b1.cell 8
  have d8 := b2.cell 8
  have c9 := b1.cell 9
  have d9 := b2.cell 9
  have c10 := b1.cell 10
  have d10 := b2.cell 10
  simp at c0 d0 c1 d1 c2 d2 c3 d3 c4 d4 c5 d5 c6 d6 c7 d7 c8 d8 c9 d9 c10 d10
  have HB := Lib.hid b3
  clear b1 b2 b3
  by_cases h0 : f0 = 0
  · subst h0
    by_cases h1 : g0 = 0
    · subst h1
      have hrr : r = (true, false) := by rw [Hr.out]; simp
      subst hrr
      go_wp2_with fail
      go_ret2
      exact .mk HB.out rfl rfl
    · have hrr : r = (false, false) := by rw [Hr.out]; simp [h1]
      have h1' : ((0 : Int) == g0) = false := by simpa using fun e : 0 = g0 => h1 e.symm
      subst hrr
      clear h1
      go_wp2_with fail
      go_ret2
      exact .mk HB.out rfl rfl
  · have h0' : (f0 == 0) = false := by simpa using h0
    by_cases h1 : g0 = 0
    · subst h1
      have hrr : r = (false, false) := by rw [Hr.out]; simp [h0]
      subst hrr
      clear h0
      go_wp2_with fail
      go_ret2
      exact .mk HB.out rfl rfl
    · have h1' : (g0 == 0) = false := by simpa using h1
      have hrr : r = q := by rw [Hr.out, if_neg (by simp [h0, h1])]
      subst hrr
      clear h0 h1
      go_wp2_with fail
      refine (hIs.out _ HB.out).mono ?_
      rintro en w2 ⟨rfl, hb⟩
      have Hf := Lib.hid (HB.out.trans (hb.mono HB.out.size))
      clear hb
      obtain ⟨r1, r2⟩ := r
      cases r2
      all_goals
        go_wp2_with fail
        go_ret2
        exact .mk Hf.out rfl rfl
end Go.Proofs.YtbhmeapnmpgggaaGreatDoor
