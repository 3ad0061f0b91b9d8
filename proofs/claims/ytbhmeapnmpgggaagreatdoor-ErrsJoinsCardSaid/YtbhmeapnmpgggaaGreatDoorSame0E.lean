/- errs.Same and what it calls: the walks. Condition: both trees lie in the world. -/
import Derived.Test.YtbhmeapnmpgggaaGreatDoorSame1E
import Derived.Test.YtbhmeapnmpgggaaGreatDoorSame0
namespace Go.Proofs.YtbhmeapnmpgggaaGreatDoor
open Go.RowKit Go.Joins

set_option maxHeartbeats 1000000 in
set_option maxRecDepth 100000 in
theorem slicesEq_any (l m : List Int) (A B : Option Addr) (ac bc : Nat) (w : World) (hl : l.length ≤ 9223372036854775807) (_hm : m.length ≤ 9223372036854775807) (ha : CodesIn w A l) (hb : CodesIn w B m) :
    Calls Tryz.prog 51 #[.slice A l.length ac, .slice B m.length bc] w (Ret (.bool (decide (l = m))) w) := by
  generalize hr : decide (l = m) = r
  have Hr := Lib.hid hr
  clear hr
  have HA : Hid (∀ q x, l[q]? = some x → ∃ ad, A = some ad ∧ w.cell? (ad.add q) = some (.int .i64 x)) := Lib.hid ha
  have HB : Hid (∀ q x, m[q]? = some x → ∃ ad, B = some ad ∧ w.cell? (ad.add q) = some (.int .i64 x)) := Lib.hid hb
  clear ha hb
  by_cases h : l.length = m.length
  · have hlen := Lib.hid h
    rw [← h]
    clear h _hm
    go_enter Tryz.func51, Tryz.ntmps51
    go_wp2_with fail
    go_loopg [13] l.length (fun g s wr => ∃ j : Nat, s = .int .i64 j ∧ j + g = l.length ∧ Below w.heap.size w wr ∧ Hid (l.take j = m.take j))
    case atStart => exact ⟨0, rfl, by omega, Below.refl _ _, by simp [Hid]⟩
    case round =>
      obtain ⟨j, rfl, hj, hbel, hinv⟩ := hrel
      by_cases hlt : j < l.length
      · obtain ⟨x, ex⟩ : ∃ x, l[j]? = some x := ⟨_, List.getElem?_eq_getElem hlt⟩
        obtain ⟨y, ey⟩ : ∃ y, m[j]? = some y := ⟨_, List.getElem?_eq_getElem (hlen.out ▸ hlt)⟩
        obtain ⟨ad, rfl, hx⟩ := HA.out j x ex
        obtain ⟨bd, rfl, hy⟩ := HB.out j y ey
        have hx1 : wr.cell? (ad.add j) = some (.int .i64 x) := (hbel.cell (lt_of_cell hx)).trans hx
        have hy1 : wr.cell? (bd.add j) = some (.int .i64 y) := (hbel.cell (lt_of_cell hy)).trans hy
        have hbelH := Lib.hid hbel
        have hex := Lib.hid (And.intro ex ey)
        clear hbel hx hy ex ey
        by_cases hxy : x = y
        · have hnx := Lib.hid (show l.take (j + 1) = m.take (j + 1) from by
            rw [List.take_add_one, List.take_add_one, hinv.out, hex.out.1, hex.out.2, hxy])
          subst hxy
          go_wp2_with fail
          go_quiet (fail)
          go_wp2_with fail
          go_roundg (gk - 1)
          case measure => omega
          case rel => exact ⟨j + 1, by go_num, by omega, hbelH.out.trans (Go.Joins.below_draws _ _ _), hnx⟩
        · have Hf := Lib.hid (show r = false from by
            rw [← Hr.out, decide_eq_false]
            exact fun h => hxy (by have h1 := hex.out.1; rw [h, hex.out.2] at h1; exact (Option.some.inj h1).symm))
          have Hf2 := Lib.hid (fun nq => ret_false (w := w) (b := r) (w' := wr.drewN nq) Hf.out (hbelH.out.trans (Go.Joins.below_draws _ _ _)))
          have hxy' : (x != y) = true := by simpa using hxy
          clear hxy
          go_wp2_with fail
          go_quiet (fail)
          go_wp2_with fail
          go_ret
          exact Hf2.out _
      · have Hf := Lib.hid (show Ret (.bool r) w (.returned (.bool true)) wr from ⟨by
          have h := hinv.out
          rw [List.take_of_length_le (by omega), List.take_of_length_le (by have := hlen.out; omega)] at h
          rw [← Hr.out, decide_eq_true h], hbel⟩)
        clear hbel HA HB
        go_wp2_with fail
        go_ret
        exact Hf.out
  · have h1 : ((l.length : Int) != (m.length : Int)) = true := by simp; omega
    have Hf := Lib.hid (ret_false (w := w) (w' := w) (b := r) (by rw [← Hr.out]; exact codes_ne h) (Below.refl _ _))
    clear HA HB Hr h
    go_enter Tryz.func51, Tryz.ntmps51
    go_wp2_with fail
    go_ret
    exact Hf.out

set_option maxHeartbeats 1000000 in
set_option maxRecDepth 100000 in
theorem eqFuncE_of (n : Nat) (ih : ∀ (a b : E) (w : World), a.size ≤ n → a.In w → b.In w → Calls Tryz.prog 15 #[a.v, b.v] w (Ret (.bool (a.same b)) w))
    (l m : List E) (A B : Option Addr) (ac bc : Nat) (w : World) (hl : l.length ≤ 9223372036854775807) (_hm : m.length ≤ 9223372036854775807)
    (HA : Hid (∀ q x, l[q]? = some x → ((∃ ad, A = some ad ∧ At w (ad.add (q * 11)) x.cs) ∧ x.In w) ∧ x.size ≤ n))
    (HB : Hid (∀ q x, m[q]? = some x → (∃ ad, B = some ad ∧ At w (ad.add (q * 11)) x.cs) ∧ x.In w)) :
    Calls Tryz.prog 52 #[.slice A l.length ac, .slice B m.length bc, .func (.func 15) #[] #[]] w (Ret (.bool (E.sameL l m)) w) := by
  have IH := Lib.hid ih
  clear ih
  generalize hr : E.sameL l m = r
  have Hr := Lib.hid hr
  clear hr
  by_cases h : l.length = m.length
  · have hlen := Lib.hid h
    rw [← h]
    clear h _hm
    go_enter Tryz.func52, Tryz.ntmps52
    go_wp2_with fail
    go_loopg [17] l.length (fun g s wr => ∃ j : Nat, s = .int .i64 j ∧ j + g = l.length ∧ Below w.heap.size w wr ∧ Hid (E.sameL (l.drop j) (m.drop j) = r))
    case atStart => exact ⟨0, rfl, by omega, Below.refl _ _, Hr⟩
    case round =>
      obtain ⟨j, rfl, hj, hbel, hinv⟩ := hrel
      by_cases hlt : j < l.length
      · obtain ⟨x', ex⟩ : ∃ x', l[j]? = some x' := ⟨_, List.getElem?_eq_getElem hlt⟩
        obtain ⟨y', ey⟩ : ∃ y', m[j]? = some y' := ⟨_, List.getElem?_eq_getElem (hlen.out ▸ hlt)⟩
        obtain ⟨⟨⟨ad, rfl, h1⟩, ha'⟩, hx⟩ := HA.out j x' ex
        obtain ⟨⟨bd, rfl, h2⟩, hb'⟩ := HB.out j y' ey
        obtain ⟨p0, p1, p2, p3, p4, p5, p6, p7, p8, p9, p10⟩ := (h1.below hbel).eleven
        have hal := fun o => (Below.refl wr.heap.size wr).alloc (Nat.le_refl _) o
        have Q := fun o => ((h2.below hbel).below (hal o)).eleven
        have q0 := fun o => (Q o).1
        have q1 := fun o => (Q o).2.1
        have q2 := fun o => (Q o).2.2.1
        have q3 := fun o => (Q o).2.2.2.1
        have q4 := fun o => (Q o).2.2.2.2.1
        have q5 := fun o => (Q o).2.2.2.2.2.1
        have q6 := fun o => (Q o).2.2.2.2.2.2.1
        have q7 := fun o => (Q o).2.2.2.2.2.2.2.1
        have q8 := fun o => (Q o).2.2.2.2.2.2.2.2.1
        have q9 := fun o => (Q o).2.2.2.2.2.2.2.2.2.1
        have q10 := fun o => (Q o).2.2.2.2.2.2.2.2.2.2
        have ha1 := ha'.below hbel
        have hb1 := hb'.below hbel
        have hst := Lib.hid (show E.sameL (l.drop j) (m.drop j) = (x'.same y' && E.sameL (l.drop (j + 1)) (m.drop (j + 1))) by rw [drop_of_get ex, drop_of_get ey]; rfl)
        have hbel' := Lib.hid hbel
        have hz := hbel.size
        have hcall := Lib.hid (fun W (h : Below wr.heap.size wr W) => IH.out x' y' W hx (ha1.below h) (hb1.below h))
        simp only [E.v, E.cs] at hcall
        clear h1 h2 HA HB ha' hb' ha1 hb1 ex ey hbel hal Q hx
        go_wp2_with fail
        have hal := ((Below.refl wr.heap.size wr).alloc (Nat.le_refl _) (.cells x'.cs.toArray 29)).alloc (by simp) (.cells y'.cs.toArray 29)
        refine (hcall.out _ hal).mono ?_
        rintro e w1 ⟨rfl, hbw⟩
        have hbb := Lib.hid (hbel'.out.trans ((hal.trans (hbw.mono hal.size)).mono hz))
        clear hbw hal hcall q0 q1 q2 q3 q4 q5 q6 q7 q8 q9 q10 p0 p1 p2 p3 p4 p5 p6 p7 p8 p9 p10
        cases hs : x'.same y'
        · go_wp2_with fail
          go_ret
          exact ⟨by rw [← hinv.out, hst.out, hs] <;> rfl, hbb.out⟩
        · go_wp2_with fail
          go_roundg (gk - 1)
          case measure => omega
          case rel => exact ⟨j + 1, by go_num, by omega, hbb.out, by unfold Hid; rw [← hinv.out, hst.out, hs] <;> rfl⟩
      · have hbel' := Lib.hid hbel
        clear hbel HA HB
        go_wp2_with fail
        go_ret
        refine ⟨?_, hbel'.out⟩
        rw [← hinv.out, List.drop_eq_nil_of_le (by omega), List.drop_eq_nil_of_le (by have := hlen.out; omega)] <;> rfl
  · have h1 : ((l.length : Int) != (m.length : Int)) = true := by simp; omega
    have h2 := Hr.out
    rw [E.sameL_len h] at h2
    subst h2
    clear IH HA HB Hr
    go_enter Tryz.func52, Tryz.ntmps52
    go_wp2_with fail
    go_ret
    exact ⟨rfl, Below.refl _ _⟩

set_option maxHeartbeats 1000000 in
set_option maxRecDepth 100000 in
theorem sameE0_no0 (a b : E) (w : World)  (h : a.k ≠ b.k) : Calls Tryz.prog 15 #[a.v, b.v] w (Ret (.bool (a.same b)) w) := by
  have hs : a.same b = false := by rw [E.same_eq]; simp [h]
  have hal : Below w.heap.size w ((w.alloc (.cells a.cs.toArray 29)).alloc (.cells b.cs.toArray 29)) := ((Below.refl _ _).alloc (Nat.le_refl _) _).alloc (by simp) _
  have Hf := Lib.hid (ret_false hs hal)
  clear hs hal
  simp only [E.v, E.cs] at Hf ⊢
  generalize a.same b = sb at *
  generalize a.k = f0, a.id = f1, a.code = f2, a.t = f3, a.body.k = f4, a.body.i = f5, a.body.b = f6, a.body.t = f7, a.body.A = f8, a.body.l.length = f9, a.body.c = f10, a.cA = f11, a.codes.length = f12, a.cc = f13, a.A = f14, a.l.length = f15, a.c = f16 at *
  generalize b.k = g0, b.id = g1, b.code = g2, b.t = g3, b.body.k = g4, b.body.i = g5, b.body.b = g6, b.body.t = g7, b.body.A = g8, b.body.l.length = g9, b.body.c = g10, b.cA = g11, b.codes.length = g12, b.cc = g13, b.A = g14, b.l.length = g15, b.c = g16 at *
  go_enter Tryz.func15, Tryz.ntmps15
  go_wp2_with fail
  go_ret
  exact Hf.out

set_option maxHeartbeats 1000000 in
set_option maxRecDepth 100000 in
theorem sameE0_no1 (a b : E) (w : World) (e0 : a.k = b.k) (h : a.id ≠ b.id) : Calls Tryz.prog 15 #[a.v, b.v] w (Ret (.bool (a.same b)) w) := by
  have hs : a.same b = false := by rw [E.same_eq]; simp [h]
  have hal : Below w.heap.size w ((w.alloc (.cells a.cs.toArray 29)).alloc (.cells b.cs.toArray 29)) := ((Below.refl _ _).alloc (Nat.le_refl _) _).alloc (by simp) _
  have Hf := Lib.hid (ret_false hs hal)
  clear hs hal
  simp only [E.v, E.cs] at Hf ⊢
  generalize a.same b = sb at *
  generalize a.k = f0, a.id = f1, a.code = f2, a.t = f3, a.body.k = f4, a.body.i = f5, a.body.b = f6, a.body.t = f7, a.body.A = f8, a.body.l.length = f9, a.body.c = f10, a.cA = f11, a.codes.length = f12, a.cc = f13, a.A = f14, a.l.length = f15, a.c = f16 at *
  generalize b.k = g0, b.id = g1, b.code = g2, b.t = g3, b.body.k = g4, b.body.i = g5, b.body.b = g6, b.body.t = g7, b.body.A = g8, b.body.l.length = g9, b.body.c = g10, b.cA = g11, b.codes.length = g12, b.cc = g13, b.A = g14, b.l.length = g15, b.c = g16 at *
  subst e0
  go_enter Tryz.func15, Tryz.ntmps15
  go_wp2_with fail
  go_ret
  exact Hf.out

set_option maxHeartbeats 1000000 in
set_option maxRecDepth 100000 in
theorem sameE0_no2 (a b : E) (w : World) (e0 : a.k = b.k) (e1 : a.id = b.id) (h : a.code ≠ b.code) : Calls Tryz.prog 15 #[a.v, b.v] w (Ret (.bool (a.same b)) w) := by
  have hs : a.same b = false := by rw [E.same_eq]; simp [h]
  have hal : Below w.heap.size w ((w.alloc (.cells a.cs.toArray 29)).alloc (.cells b.cs.toArray 29)) := ((Below.refl _ _).alloc (Nat.le_refl _) _).alloc (by simp) _
  have Hf := Lib.hid (ret_false hs hal)
  clear hs hal
  simp only [E.v, E.cs] at Hf ⊢
  generalize a.same b = sb at *
  generalize a.k = f0, a.id = f1, a.code = f2, a.t = f3, a.body.k = f4, a.body.i = f5, a.body.b = f6, a.body.t = f7, a.body.A = f8, a.body.l.length = f9, a.body.c = f10, a.cA = f11, a.codes.length = f12, a.cc = f13, a.A = f14, a.l.length = f15, a.c = f16 at *
  generalize b.k = g0, b.id = g1, b.code = g2, b.t = g3, b.body.k = g4, b.body.i = g5, b.body.b = g6, b.body.t = g7, b.body.A = g8, b.body.l.length = g9, b.body.c = g10, b.cA = g11, b.codes.length = g12, b.cc = g13, b.A = g14, b.l.length = g15, b.c = g16 at *
  subst e0
  subst e1
  go_enter Tryz.func15, Tryz.ntmps15
  go_wp2_with fail
  go_ret
  exact Hf.out

set_option maxHeartbeats 1000000 in
set_option maxRecDepth 100000 in
theorem sameE0_no3 (a b : E) (w : World) (e0 : a.k = b.k) (e1 : a.id = b.id) (e2 : a.code = b.code) (h : a.t ≠ b.t) : Calls Tryz.prog 15 #[a.v, b.v] w (Ret (.bool (a.same b)) w) := by
  have hs : a.same b = false := by rw [E.same_eq]; simp [h]
  have hal : Below w.heap.size w ((w.alloc (.cells a.cs.toArray 29)).alloc (.cells b.cs.toArray 29)) := ((Below.refl _ _).alloc (Nat.le_refl _) _).alloc (by simp) _
  have Hf := Lib.hid (ret_false hs hal)
  clear hs hal
  simp only [E.v, E.cs] at Hf ⊢
  have h : ¬ a.t.toList = b.t.toList := fun e => h (toList_inj e)
  generalize a.same b = sb at *
  generalize a.k = f0, a.id = f1, a.code = f2, a.t = f3, a.body.k = f4, a.body.i = f5, a.body.b = f6, a.body.t = f7, a.body.A = f8, a.body.l.length = f9, a.body.c = f10, a.cA = f11, a.codes.length = f12, a.cc = f13, a.A = f14, a.l.length = f15, a.c = f16 at *
  generalize b.k = g0, b.id = g1, b.code = g2, b.t = g3, b.body.k = g4, b.body.i = g5, b.body.b = g6, b.body.t = g7, b.body.A = g8, b.body.l.length = g9, b.body.c = g10, b.cA = g11, b.codes.length = g12, b.cc = g13, b.A = g14, b.l.length = g15, b.c = g16 at *
  subst e0
  subst e1
  subst e2
  go_enter Tryz.func15, Tryz.ntmps15
  go_wp2_with fail
  go_ret
  exact Hf.out

set_option maxHeartbeats 4000000 in
set_option maxRecDepth 100000 in
theorem sameE0_rest (n : Nat) (a b : E) (w : World) (hn : E.sizeL a.l ≤ n) (ha : a.In w) (hb : b.In w) (e0 : a.k = b.k) (e1 : a.id = b.id) (e2 : a.code = b.code) (e3 : a.t = b.t)
    (ih : ∀ (x y : E) (w : World), x.size ≤ n → x.In w → y.In w → Calls Tryz.prog 15 #[x.v, y.v] w (Ret (.bool (x.same y)) w)) :
    Calls Tryz.prog 15 #[a.v, b.v] w (Ret (.bool (a.same b)) w) := by
  have ra := ha.rng
  have rb := hb.rng
  obtain ⟨_, _, _, _, ra5, ra6, ra7, ra8, ra9, _⟩ := ra
  obtain ⟨_, _, _, _, rb5, rb6, rb7, rb8, rb9, _⟩ := rb
  have h1 := Lib.hid (fun w (ha : a.body.In w) (hb : b.body.In w) => same0_any a.body.size a.body b.body w (Nat.le_refl _) ha hb)
  have h2 := Lib.hid (fun w (ha : a.In w) (hb : b.In w) => slicesEq_any a.codes b.codes a.cA b.cA a.cc b.cc w (by omega) (by omega) ha.cod hb.cod)
  have h3 := Lib.hid (fun w (ha : a.In w) (hb : b.In w) => eqFuncE_of n ih a.l b.l a.A b.A a.c b.c w (by omega) (by omega) (Lib.hid fun q x hq => ⟨ha.at_ hq, Nat.le_trans (E.sizeL_le hq) hn⟩) (Lib.hid fun q x hq => hb.at_ hq))
  have hs : a.same b = (a.body.same b.body && decide (a.codes = b.codes) && E.sameL a.l b.l) := by rw [E.same_eq, e0, e1, e2, e3]; simp
  have hal : Below w.heap.size w ((w.alloc (.cells a.cs.toArray 29)).alloc (.cells b.cs.toArray 29)) := ((Below.refl _ _).alloc (Nat.le_refl _) _).alloc (by simp) _
  have hW : ∀ W, W = ((w.alloc (.cells a.cs.toArray 29)).alloc (.cells b.cs.toArray 29)) → Blk W w.heap.size 29 a.cs.toArray ∧ Blk W (w.heap.size + 1) 29 b.cs.toArray ∧ Below w.heap.size w W := fun W h => by
    subst h
    exact ⟨(Blk.new _ _ _).alloc _, Blk.new' (by simp) _ _, hal⟩
  have HW := Lib.hid hW
  have HX := Lib.hid (And.intro ha hb)
  have Hs := Lib.hid hs
  clear hW hal ha hb ih hs
  simp only [E.v, E.cs, D.v, D.cs] at h1 HW ⊢
  generalize a.same b = sb at *
  generalize a.body.same b.body = bs at *
  generalize decide (a.codes = b.codes) = cs at *
  generalize E.sameL a.l b.l = ls at *
  generalize a.k = f0, a.id = f1, a.code = f2, a.t = f3, a.body.k = f4, a.body.i = f5, a.body.b = f6, a.body.t = f7, a.body.A = f8, a.body.l.length = f9, a.body.c = f10, a.cA = f11, a.codes.length = f12, a.cc = f13, a.A = f14, a.l.length = f15, a.c = f16 at *
  generalize b.k = g0, b.id = g1, b.code = g2, b.t = g3, b.body.k = g4, b.body.i = g5, b.body.b = g6, b.body.t = g7, b.body.A = g8, b.body.l.length = g9, b.body.c = g10, b.cA = g11, b.codes.length = g12, b.cc = g13, b.A = g14, b.l.length = g15, b.c = g16 at *
  subst e0 e1 e2 e3
  go_enter Tryz.func15, Tryz.ntmps15
  go_wp2_with fail
  obtain ⟨b1, b2, b3⟩ := HW.out _ rfl
  clear HW
  generalize (w.alloc _).alloc _ = W at *
  refine (h1.out W (HX.out.1.below b3).bod (HX.out.2.below b3).bod).mono ?_
  rintro en w1 ⟨rfl, hb⟩
  have b1 := b1.below hb b1.lt
  have b2 := b2.below hb b2.lt
  have b3 := b3.trans (hb.mono b3.size)
  have c9 := b1.cell 9
  have d9 := b2.cell 9
  simp at c9 d9
  have Hb := Lib.hid (And.intro b1 (And.intro b2 b3))
  clear hb b1 b2 b3 h1
  cases bs
  · have Hf := Lib.hid (ret_false (w := w) (b := sb) (by rw [Hs.out]; rfl) Hb.out.2.2)
    go_wp2_with fail
    go_ret
    exact Hf.out
  · go_wp2_with fail
    refine (h2.out w1 (HX.out.1.below Hb.out.2.2) (HX.out.2.below Hb.out.2.2)).mono ?_
    rintro en w2 ⟨rfl, hb⟩
    have b1 := Hb.out.1.below hb Hb.out.1.lt
    have b2 := Hb.out.2.1.below hb Hb.out.2.1.lt
    have b3 := Hb.out.2.2.trans (hb.mono Hb.out.2.2.size)
    have c10 := b1.cell 10
    have d10 := b2.cell 10
    simp at c10 d10
    have Hb2 := Lib.hid b3
    clear hb b1 b2 b3 h2 c9 d9 Hb
    cases cs
    · have Hf := Lib.hid (ret_false (w := w) (b := sb) (by rw [Hs.out]; simp) Hb2.out)
      go_wp2_with fail
      go_ret
      exact Hf.out
    · go_wp2_with fail
      refine (h3.out w2 (HX.out.1.below Hb2.out) (HX.out.2.below Hb2.out)).mono ?_
      rintro en w3 ⟨rfl, hb⟩
      have Hf := Lib.hid (show Ret (.bool sb) w (.returned (.bool ls)) w3 from ⟨by rw [Hs.out]; simp, Hb2.out.trans (hb.mono Hb2.out.size)⟩)
      clear hb h3 c10 d10
      go_wp2_with fail
      go_ret
      exact Hf.out

theorem sameE0_any (n : Nat) : ∀ (a b : E) (w : World), a.size ≤ n → a.In w → b.In w → Calls Tryz.prog 15 #[a.v, b.v] w (Ret (.bool (a.same b)) w) := by
  induction n with
  | zero => intro a b w h; rw [E.size_eq] at h; omega
  | succ n ih =>
    intro a b w hn ha hb
    by_cases e0 : a.k = b.k
    · by_cases e1 : a.id = b.id
      · by_cases e2 : a.code = b.code
        · by_cases e3 : a.t = b.t
          · exact sameE0_rest n a b w (by rw [E.size_eq] at hn; omega) ha hb e0 e1 e2 e3 ih
          · exact sameE0_no3 a b w e0 e1 e2 e3
        · exact sameE0_no2 a b w e0 e1 e2
      · exact sameE0_no1 a b w e0 e1
    · exact sameE0_no0 a b w e0
end Go.Proofs.YtbhmeapnmpgggaaGreatDoor
