/- R.Same of layer 35: the walk. Condition: both trees lie in the world. -/
import Derived.Test.YtbhmeapnmpgggaaGreatDoorSame1
import Derived.Test.YtbhmeapnmpgggaaGreatDoorMade
import Derived.Test.YtbhmeapnmpgggaaGreatDoorReg
import Derived.Lib.SmallJoins
namespace Go.Proofs.YtbhmeapnmpgggaaGreatDoor
open Go.RowKit

mutual
/-- all fields the same, part by part -/
def E.same : E → E → Bool
  | .mk k id code t body _ _ codes _ _ l, y => k == y.k && id == y.id && code == y.code && decide (t = y.t) && body.same y.body && decide (codes = y.codes) && E.sameL l y.l
def E.sameL : List E → List E → Bool
  | [], [] => true
  | x :: l, y :: m => x.same y && E.sameL l m
  | _, _ => false
end
theorem E.same_eq (a b : E) : a.same b = (a.k == b.k && a.id == b.id && a.code == b.code && decide (a.t = b.t) && a.body.same b.body && decide (a.codes = b.codes) && E.sameL a.l b.l) := by cases a; rw [E.same]; rfl
theorem E.sameL_len : ∀ {l m : List E}, l.length ≠ m.length → E.sameL l m = false
  | [], [], h => absurd rfl h
  | [], _ :: _, _ => rfl
  | _ :: _, [], _ => rfl
  | x :: l, y :: m, h => by
    have : l.length ≠ m.length := fun e => h (by simp [e])
    rw [E.sameL, E.sameL_len this, Bool.and_false]
theorem ret_false {w : World} {b : Bool} {w' : World} (h : b = false) (hb : Below w.heap.size w w') : Ret (.bool b) w (.returned (.bool false)) w' := ⟨by rw [h], hb⟩

set_option maxHeartbeats 1000000 in
set_option maxRecDepth 100000 in
theorem sameE1_no0 (a b : E) (w : World)  (h : a.k ≠ b.k) : Calls Tryz.prog 16 #[a.v, b.v] w (Ret (.bool (a.same b)) w) := by
  have hs : a.same b = false := by rw [E.same_eq]; simp [h]
  have hal : Below w.heap.size w ((w.alloc (.cells a.cs.toArray 29)).alloc (.cells b.cs.toArray 29)) := ((Below.refl _ _).alloc (Nat.le_refl _) _).alloc (by simp) _
  have Hf := Lib.hid (ret_false hs hal)
  clear hs hal
  simp only [E.v, E.cs] at Hf ⊢
  generalize a.same b = sb at *
  generalize a.k = f0, a.id = f1, a.code = f2, a.t = f3, a.body.k = f4, a.body.i = f5, a.body.b = f6, a.body.t = f7, a.body.A = f8, a.body.l.length = f9, a.body.c = f10, a.cA = f11, a.codes.length = f12, a.cc = f13, a.A = f14, a.l.length = f15, a.c = f16 at *
  generalize b.k = g0, b.id = g1, b.code = g2, b.t = g3, b.body.k = g4, b.body.i = g5, b.body.b = g6, b.body.t = g7, b.body.A = g8, b.body.l.length = g9, b.body.c = g10, b.cA = g11, b.codes.length = g12, b.cc = g13, b.A = g14, b.l.length = g15, b.c = g16 at *
  go_enter Tryz.func16, Tryz.ntmps16
  go_wp2_with fail
  go_ret
  exact Hf.out

set_option maxHeartbeats 1000000 in
set_option maxRecDepth 100000 in
theorem sameE1_no1 (a b : E) (w : World) (e0 : a.k = b.k) (h : a.id ≠ b.id) : Calls Tryz.prog 16 #[a.v, b.v] w (Ret (.bool (a.same b)) w) := by
  have hs : a.same b = false := by rw [E.same_eq]; simp [h]
  have hal : Below w.heap.size w ((w.alloc (.cells a.cs.toArray 29)).alloc (.cells b.cs.toArray 29)) := ((Below.refl _ _).alloc (Nat.le_refl _) _).alloc (by simp) _
  have Hf := Lib.hid (ret_false hs hal)
  clear hs hal
  simp only [E.v, E.cs] at Hf ⊢
  generalize a.same b = sb at *
  generalize a.k = f0, a.id = f1, a.code = f2, a.t = f3, a.body.k = f4, a.body.i = f5, a.body.b = f6, a.body.t = f7, a.body.A = f8, a.body.l.length = f9, a.body.c = f10, a.cA = f11, a.codes.length = f12, a.cc = f13, a.A = f14, a.l.length = f15, a.c = f16 at *
  generalize b.k = g0, b.id = g1, b.code = g2, b.t = g3, b.body.k = g4, b.body.i = g5, b.body.b = g6, b.body.t = g7, b.body.A = g8, b.body.l.length = g9, b.body.c = g10, b.cA = g11, b.codes.length = g12, b.cc = g13, b.A = g14, b.l.length = g15, b.c = g16 at *
  subst e0
  go_enter Tryz.func16, Tryz.ntmps16
  go_wp2_with fail
  go_ret
  exact Hf.out

set_option maxHeartbeats 1000000 in
set_option maxRecDepth 100000 in
theorem sameE1_no2 (a b : E) (w : World) (e0 : a.k = b.k) (e1 : a.id = b.id) (h : a.code ≠ b.code) : Calls Tryz.prog 16 #[a.v, b.v] w (Ret (.bool (a.same b)) w) := by
  have hs : a.same b = false := by rw [E.same_eq]; simp [h]
  have hal : Below w.heap.size w ((w.alloc (.cells a.cs.toArray 29)).alloc (.cells b.cs.toArray 29)) := ((Below.refl _ _).alloc (Nat.le_refl _) _).alloc (by simp) _
  have Hf := Lib.hid (ret_false hs hal)
  clear hs hal
  simp only [E.v, E.cs] at Hf ⊢
  generalize a.same b = sb at *
  generalize a.k = f0, a.id = f1, a.code = f2, a.t = f3, a.body.k = f4, a.body.i = f5, a.body.b = f6, a.body.t = f7, a.body.A = f8, a.body.l.length = f9, a.body.c = f10, a.cA = f11, a.codes.length = f12, a.cc = f13, a.A = f14, a.l.length = f15, a.c = f16 at *
  generalize b.k = g0, b.id = g1, b.code = g2, b.t = g3, b.body.k = g4, b.body.i = g5, b.body.b = g6, b.body.t = g7, b.body.A = g8, b.body.l.length = g9, b.body.c = g10, b.cA = g11, b.codes.length = g12, b.cc = g13, b.A = g14, b.l.length = g15, b.c = g16 at *
  subst e0
  subst e1
  go_enter Tryz.func16, Tryz.ntmps16
  go_wp2_with fail
  go_ret
  exact Hf.out

set_option maxHeartbeats 1000000 in
set_option maxRecDepth 100000 in
theorem sameE1_no3 (a b : E) (w : World) (e0 : a.k = b.k) (e1 : a.id = b.id) (e2 : a.code = b.code) (h : a.t ≠ b.t) : Calls Tryz.prog 16 #[a.v, b.v] w (Ret (.bool (a.same b)) w) := by
  have hs : a.same b = false := by rw [E.same_eq]; simp [h]
  have hal : Below w.heap.size w ((w.alloc (.cells a.cs.toArray 29)).alloc (.cells b.cs.toArray 29)) := ((Below.refl _ _).alloc (Nat.le_refl _) _).alloc (by simp) _
  have Hf := Lib.hid (ret_false hs hal)
  clear hs hal
  simp only [E.v, E.cs] at Hf ⊢
  have h : ¬ a.t.toList = b.t.toList := fun e => h (toList_inj e)
  generalize a.same b = sb at *
  generalize a.k = f0, a.id = f1, a.code = f2, a.t = f3, a.body.k = f4, a.body.i = f5, a.body.b = f6, a.body.t = f7, a.body.A = f8, a.body.l.length = f9, a.body.c = f10, a.cA = f11, a.codes.length = f12, a.cc = f13, a.A = f14, a.l.length = f15, a.c = f16 at *
  generalize b.k = g0, b.id = g1, b.code = g2, b.t = g3, b.body.k = g4, b.body.i = g5, b.body.b = g6, b.body.t = g7, b.body.A = g8, b.body.l.length = g9, b.body.c = g10, b.cA = g11, b.codes.length = g12, b.cc = g13, b.A = g14, b.l.length = g15, b.c = g16 at *
  subst e0
  subst e1
  subst e2
  go_enter Tryz.func16, Tryz.ntmps16
  go_wp2_with fail
  go_ret
  exact Hf.out

theorem codes_ne {l m : List Int} (h : l.length ≠ m.length) : decide (l = m) = false := by
  rw [decide_eq_false]; exact fun e => h (by rw [e])
set_option maxHeartbeats 4000000 in
set_option maxRecDepth 100000 in
theorem sameE1_rest (n : Nat) (a b : E) (w : World) (hn : E.sizeL a.l ≤ n) (ha : a.In w) (hb : b.In w) (e0 : a.k = b.k) (e1 : a.id = b.id) (e2 : a.code = b.code) (e3 : a.t = b.t)
    (ih : ∀ (x y : E) (w : World), x.size ≤ n → x.In w → y.In w → Calls Tryz.prog 16 #[x.v, y.v] w (Ret (.bool (x.same y)) w)) :
    Calls Tryz.prog 16 #[a.v, b.v] w (Ret (.bool (a.same b)) w) := by
  have h1 := Lib.hid (fun w (ha : a.body.In w) (hb : b.body.In w) => same1_any a.body.size a.body b.body w (Nat.le_refl _) ha hb)
  have hs : a.same b = (a.body.same b.body && decide (a.codes = b.codes) && E.sameL a.l b.l) := by rw [E.same_eq, e0, e1, e2, e3]; simp
  have hal : Below w.heap.size w ((w.alloc (.cells a.cs.toArray 29)).alloc (.cells b.cs.toArray 29)) := ((Below.refl _ _).alloc (Nat.le_refl _) _).alloc (by simp) _
  have hW : ∀ W, W = ((w.alloc (.cells a.cs.toArray 29)).alloc (.cells b.cs.toArray 29)) → Blk W w.heap.size 29 a.cs.toArray ∧ Blk W (w.heap.size + 1) 29 b.cs.toArray ∧ Below w.heap.size w W := fun W h => by
    subst h
    exact ⟨(Blk.new _ _ _).alloc _, Blk.new' (by simp) _ _, hal⟩
  have HW := Lib.hid hW
  have HX := Lib.hid (And.intro ha hb)
  have Hih := Lib.hid ih
  have Hs := Lib.hid hs
  have HCa : Hid (∀ q x, a.codes[q]? = some x → ∃ ad, a.cA = some ad ∧ w.cell? (ad.add q) = some (.int .i64 x)) := Lib.hid ha.cod
  have HCb : Hid (∀ q x, b.codes[q]? = some x → ∃ ad, b.cA = some ad ∧ w.cell? (ad.add q) = some (.int .i64 x)) := Lib.hid hb.cod
  have HEa : Hid (∀ q x, a.l[q]? = some x → (∃ ad, a.A = some ad ∧ At w (ad.add (q * 11)) x.cs) ∧ x.In w) := Lib.hid fun q x h => ha.at_ h
  have HEb : Hid (∀ q x, b.l[q]? = some x → (∃ ad, b.A = some ad ∧ At w (ad.add (q * 11)) x.cs) ∧ x.In w) := Lib.hid fun q x h => hb.at_ h
  have ra := ha.rng
  have rb := hb.rng
  obtain ⟨_, _, _, _, ra5, ra6, ra7, ra8, ra9, _⟩ := ra
  obtain ⟨_, _, _, _, rb5, rb6, rb7, rb8, rb9, _⟩ := rb
  clear hW hal ha hb ih hs
  simp only [E.v, E.cs, D.v, D.cs] at h1 HW ⊢
  generalize a.same b = sb at *
  generalize hbs : a.body.same b.body = bs at *
  have Hbs := Lib.hid hbs
  clear hbs
  generalize hla : a.codes.length = la at *
  generalize hlb : b.codes.length = lb at *
  generalize hma : a.l.length = ma at *
  generalize hmb : b.l.length = mb at *
  have HL := Lib.hid (And.intro hla (And.intro hlb (And.intro hma hmb)))
  clear hla hlb hma hmb
  generalize a.k = f0, a.id = f1, a.code = f2, a.t = f3, a.body.k = f4, a.body.i = f5, a.body.b = f6, a.body.t = f7, a.body.A = f8, a.body.l.length = f9, a.body.c = f10, a.cA = f11, a.cc = f13, a.A = f14, a.c = f16 at *
  generalize b.k = g0, b.id = g1, b.code = g2, b.t = g3, b.body.k = g4, b.body.i = g5, b.body.b = g6, b.body.t = g7, b.body.A = g8, b.body.l.length = g9, b.body.c = g10, b.cA = g11, b.cc = g13, b.A = g14, b.c = g16 at *
  subst e0 e1 e2 e3
  go_enter Tryz.func16, Tryz.ntmps16
  go_wp2_with fail
  obtain ⟨b1, b2, b3⟩ := HW.out _ rfl
  clear HW
  generalize (w.alloc _).alloc _ = W at *
  refine (h1.out W (HX.out.1.below b3).bod (HX.out.2.below b3).bod).mono ?_
  rintro en w1 ⟨rfl, hb⟩
  have b1 := b1.below hb b1.lt
  have b2 := b2.below hb b2.lt
  have b3 := b3.trans (hb.mono b3.size)
  have c9 := b1.cell 9
  have c10 := b1.cell 10
  have d9 := b2.cell 9
  have d10 := b2.cell 10
  simp at c9 c10 d9 d10
  have hz := b2.lt
  have Hb := Lib.hid b3
  clear hb b1 b2 b3 h1
  cases bs
  · have Hf := Lib.hid (ret_false (w := w) (b := sb) (by rw [Hs.out]; rfl) Hb.out)
    go_wp2_with fail
    go_ret
    exact Hf.out
  · by_cases hl : la = lb
    · by_cases hm : ma = mb
      · subst hl hm
        go_wp2_with fail
        go_loopg [62] la (fun gk s wr => ∃ j : Nat, s = .int .i64 j ∧ j + gk = la ∧ Below w1.heap.size w1 wr ∧ Hid (a.codes.take j = b.codes.take j))
        case atStart => exact ⟨0, rfl, by omega, Below.refl _ _, by simp [Hid]⟩
        case round =>
          obtain ⟨j, rfl, hj, hbel, hinv⟩ := hrel
          have q9 := (hbel.cell (p := ⟨w.heap.size, 9, none⟩) (Nat.lt_of_succ_lt hz)).trans c9
          have q10 := (hbel.cell (p := ⟨w.heap.size + 1, 9, none⟩) hz).trans d9
          by_cases hlt : j < la
          · obtain ⟨x, ex⟩ : ∃ x, a.codes[j]? = some x := ⟨_, List.getElem?_eq_getElem (by rw [HL.out.1]; exact hlt)⟩
            obtain ⟨y, ey⟩ : ∃ y, b.codes[j]? = some y := ⟨_, List.getElem?_eq_getElem (by rw [HL.out.2.1]; exact hlt)⟩
            obtain ⟨ad, rfl, hx⟩ := HCa.out j x ex
            obtain ⟨bd, rfl, hy⟩ := HCb.out j y ey
            have hbel2 := Hb.out.trans (hbel.mono Hb.out.size)
            have hx1 : wr.cell? (ad.add j) = some (.int .i64 x) := (hbel2.cell (lt_of_cell hx)).trans hx
            have hy1 : wr.cell? (bd.add j) = some (.int .i64 y) := (hbel2.cell (lt_of_cell hy)).trans hy
            have hbelH := Lib.hid (And.intro hbel hbel2)
            have hex := Lib.hid (And.intro ex ey)
            clear hbel hbel2 hx hy ex ey
            by_cases hxy : x = y
            · have hnx := Lib.hid (show a.codes.take (j + 1) = b.codes.take (j + 1) from by
                rw [List.take_add_one, List.take_add_one, hinv.out, hex.out.1, hex.out.2, hxy])
              subst hxy
              go_wp2_with fail
              go_quiet (fail)
              go_wp2_with fail
              go_roundg (gk - 1)
              case measure => omega
              case rel => exact ⟨j + 1, by go_num, by omega, hbelH.out.1.trans (Go.Joins.below_draws _ _ _), hnx⟩
            · have Hf := Lib.hid (show a.codes ≠ b.codes from fun h => hxy (by have h1 := hex.out.1; rw [h, hex.out.2] at h1; exact (Option.some.inj h1).symm))
              have Hf2 := Lib.hid (fun nq => ret_false (w := w) (b := sb) (w' := wr.drewN nq) (by rw [Hs.out, decide_eq_false Hf.out]; simp) (hbelH.out.2.trans (Go.Joins.below_draws _ _ _)))
              have hxy' : (x != y) = true := by simpa using hxy
              clear hxy
              go_wp2_with fail
              go_quiet (fail)
              go_wp2_with fail
              go_ret
              exact Hf2.out _
          · have hcodes := Lib.hid (show a.codes = b.codes from by
              have h := hinv.out
              rw [List.take_of_length_le (by rw [HL.out.1]; omega), List.take_of_length_le (by rw [HL.out.2.1]; omega)] at h
              exact h)
            have Hb2 := Lib.hid (Hb.out.trans (hbel.mono Hb.out.size))
            have hbelH := Lib.hid hbel
            have r10 := (hbel.cell (p := ⟨w.heap.size, 10, none⟩) (Nat.lt_of_succ_lt hz)).trans c10
            have r11 := (hbel.cell (p := ⟨w.heap.size + 1, 10, none⟩) hz).trans d10
            have hzr := hbel.size
            clear hbel hinv q9 q10 c9 c10 d9 d10
            obtain ⟨wo, rfl⟩ : ∃ wo : World, wo = wr := ⟨_, rfl⟩
            go_wp2_with fail
            go_loopg [80] ma (fun gk s wq => ∃ j2 : Nat, s = .int .i64 j2 ∧ j2 + gk = ma ∧ Below wo.heap.size wo wq ∧ Hid (E.sameL (a.l.drop j2) (b.l.drop j2) = E.sameL a.l b.l))
            case atStart => exact ⟨0, rfl, by omega, Below.refl _ _, by simp [Hid]⟩
            case round =>
              obtain ⟨j2, rfl, hj2, hbel, hinv⟩ := hrel
              have q9 := (hbel.cell (p := ⟨w.heap.size, 10, none⟩) (Nat.lt_of_lt_of_le (Nat.lt_of_succ_lt hz) hzr)).trans r10
              have q10 := (hbel.cell (p := ⟨w.heap.size + 1, 10, none⟩) (Nat.lt_of_lt_of_le hz hzr)).trans r11
              have hball := (Hb.out.trans (hbelH.out.mono Hb.out.size)).trans (hbel.mono (Nat.le_trans Hb.out.size hzr))
              by_cases hlt2 : j2 < ma
              · obtain ⟨x, ex⟩ : ∃ x, a.l[j2]? = some x := ⟨_, List.getElem?_eq_getElem (by rw [HL.out.2.2.1]; exact hlt2)⟩
                obtain ⟨y, ey⟩ : ∃ y, b.l[j2]? = some y := ⟨_, List.getElem?_eq_getElem (by rw [HL.out.2.2.2]; exact hlt2)⟩
                obtain ⟨⟨ad, rfl, hx⟩, hxi⟩ := HEa.out j2 x ex
                obtain ⟨⟨bd, rfl, hy⟩, hyi⟩ := HEb.out j2 y ey
                obtain ⟨p0, p1, p2, p3, p4, p5, p6, p7, p8, p9, p10⟩ := (hx.below hball).eleven
                obtain ⟨s0, s1, s2, s3, s4, s5, s6, s7, s8, s9, s10⟩ := (hy.below hball).eleven
                have hst : Hid (E.sameL (a.l.drop j2) (b.l.drop j2) = (x.same y && E.sameL (a.l.drop (j2 + 1)) (b.l.drop (j2 + 1)))) := by
                  rw [drop_of_get ex, drop_of_get ey]; rfl
                have hcall := Lib.hid (fun wz (hz : Below wr.heap.size wr wz) => Hih.out x y wz (Nat.le_trans (E.sizeL_le ex) hn) ((hxi.below hball).below hz) ((hyi.below hball).below hz))
                have hbH := Lib.hid (And.intro hbel hball)
                simp only [E.v, E.cs] at hcall
                clear hx hy hxi hyi ex ey hbel hball HEa HEb HCa HCb HX Hih
                go_wp2_with fail
                go_still_tail 10, (by kernel_rfl)
                go_wp2_with fail
                refine (hcall.out wr.drew (Below.refl _ _).drew).mono ?_
                rintro en w2 ⟨rfl, hbw⟩
                have hk1 := hbH.out.1.trans (((Below.refl wr.heap.size wr).drew.trans hbw).mono hbH.out.1.size)
                have hk2 := hbH.out.2.trans (((Below.refl wr.heap.size wr).drew.trans hbw).mono hbH.out.2.size)
                have Hk := Lib.hid (And.intro hk1 hk2)
                clear hbw hk1 hk2 p0 p1 p2 p3 p4 p5 p6 p7 p8 p9 p10 s0 s1 s2 s3 s4 s5 s6 s7 s8 s9 s10 hcall
                cases hsxy : x.same y
                · have Hf := Lib.hid (ret_false (w := w) (b := sb) (by rw [Hs.out, ← hinv.out, hst.out, hsxy]; simp) Hk.out.2)
                  go_wp2_with fail
                  go_ret
                  exact Hf.out
                · have hnx := Lib.hid (show E.sameL (a.l.drop (j2 + 1)) (b.l.drop (j2 + 1)) = E.sameL a.l b.l from by rw [← hinv.out, hst.out, hsxy]; rfl)
                  go_wp2_with fail
                  go_roundg (gk - 1)
                  case measure => omega
                  case rel => exact ⟨j2 + 1, by go_num, by omega, Hk.out.1, hnx⟩
              · have Hf := Lib.hid (show Ret (.bool sb) w (.returned (.bool true)) wr from ⟨by
                  rw [Hs.out, ← hinv.out, List.drop_eq_nil_of_le (by rw [HL.out.2.2.1]; omega), List.drop_eq_nil_of_le (by rw [HL.out.2.2.2]; omega), hcodes.out]
                  simp [E.sameL], hball⟩)
                clear hbel hball HEa HEb HCa HCb HX Hih
                go_wp2_with fail
                go_ret
                exact Hf.out
      · have Hf := Lib.hid (ret_false (w := w) (b := sb) (by rw [Hs.out, E.sameL_len (by rw [HL.out.2.2.1, HL.out.2.2.2]; exact hm), Bool.and_false]) Hb.out)
        subst hl
        have hm' : ((ma : Int) != (mb : Int)) = true := by simp; omega
        clear hm
        go_wp2_with fail
        go_ret
        exact Hf.out
    · have Hf := Lib.hid (ret_false (w := w) (b := sb) (by rw [Hs.out, codes_ne (by rw [HL.out.1, HL.out.2.1]; exact hl)]; simp) Hb.out)
      have hl' : ((la : Int) != (lb : Int)) = true := by simp; omega
      clear hl
      go_wp2_with fail
      go_ret
      exact Hf.out

theorem sameE1_any (n : Nat) : ∀ (a b : E) (w : World), a.size ≤ n → a.In w → b.In w → Calls Tryz.prog 16 #[a.v, b.v] w (Ret (.bool (a.same b)) w) := by
  induction n with
  | zero => intro a b w h; rw [E.size_eq] at h; omega
  | succ n ih =>
    intro a b w hn ha hb
    by_cases e0 : a.k = b.k
    · by_cases e1 : a.id = b.id
      · by_cases e2 : a.code = b.code
        · by_cases e3 : a.t = b.t
          · exact sameE1_rest n a b w (by rw [E.size_eq] at hn; omega) ha hb e0 e1 e2 e3 ih
          · exact sameE1_no3 a b w e0 e1 e2 e3
        · exact sameE1_no2 a b w e0 e1 e2
      · exact sameE1_no1 a b w e0 e1
    · exact sameE1_no0 a b w e0
end Go.Proofs.YtbhmeapnmpgggaaGreatDoor
