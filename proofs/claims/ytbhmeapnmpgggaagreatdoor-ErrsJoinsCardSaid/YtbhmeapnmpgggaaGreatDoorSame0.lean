/- datum.Same and slices.EqualFunc with it: the walks. Condition: the trees lie in the world. -/
import Derived.Test.YtbhmeapnmpgggaaGreatDoorKit
namespace Go.Proofs.YtbhmeapnmpgggaaGreatDoor
open Go.RowKit

set_option maxHeartbeats 1000000 in
set_option maxRecDepth 100000 in
theorem eqFuncD_of (n : Nat) (ih : ∀ (a b : D) (w : World), a.size ≤ n → a.In w → b.In w →
    Calls Tryz.prog 50 #[a.v, b.v] w fun e w' => e = .returned (.bool (a.same b)) ∧ Below w.heap.size w w')
    (l m : List D) (A B : Option Addr) (ac bc : Nat) (w : World) (hl : l.length ≤ 9223372036854775807) (_hm : m.length ≤ 9223372036854775807)
    (HA : Hid (∀ q x, l[q]? = some x → ((∃ ad, A = some ad ∧ At w (ad.add (q * 5)) x.cs) ∧ x.In w) ∧ x.size ≤ n))
    (HB : Hid (∀ q x, m[q]? = some x → (∃ ad, B = some ad ∧ At w (ad.add (q * 5)) x.cs) ∧ x.In w)) :
    Calls Tryz.prog 91 #[.slice A l.length ac, .slice B m.length bc, .func (.func 50) #[] #[]] w
      fun e w' => e = .returned (.bool (D.sameL l m)) ∧ Below w.heap.size w w' := by
  have IH := Lib.hid ih
  clear ih
  generalize hr : D.sameL l m = r
  have Hr := Lib.hid hr
  clear hr
  by_cases h : l.length = m.length
  · have hlen := Lib.hid h
    rw [← h]
    clear h _hm
    go_enter Tryz.func91, Tryz.ntmps91
    go_wp2_with fail
    go_loopg [17] l.length (fun g s wr => ∃ j : Nat, s = .int .i64 j ∧ j + g = l.length ∧ Below w.heap.size w wr ∧ Hid (D.sameL (l.drop j) (m.drop j) = r))
    case atStart => exact ⟨0, rfl, by omega, Below.refl _ _, Hr⟩
    case round =>
      obtain ⟨j, rfl, hj, hbel, hinv⟩ := hrel
      by_cases hlt : j < l.length
      · obtain ⟨x', ex⟩ : ∃ x', l[j]? = some x' := ⟨_, List.getElem?_eq_getElem hlt⟩
        obtain ⟨y', ey⟩ : ∃ y', m[j]? = some y' := ⟨_, List.getElem?_eq_getElem (hlen.out ▸ hlt)⟩
        obtain ⟨⟨⟨ad, rfl, h1⟩, ha'⟩, hx⟩ := HA.out j x' ex
        obtain ⟨⟨bd, rfl, h2⟩, hb'⟩ := HB.out j y' ey
        obtain ⟨p0, p1, p2, p3, p4⟩ := (h1.below hbel).five
        have hal := fun o => (Below.refl wr.heap.size wr).alloc (Nat.le_refl _) o
        have Q := fun o => ((h2.below hbel).below (hal o)).five
        have q0 := fun o => (Q o).1
        have q1 := fun o => (Q o).2.1
        have q2 := fun o => (Q o).2.2.1
        have q3 := fun o => (Q o).2.2.2.1
        have q4 := fun o => (Q o).2.2.2.2
        have ha1 := ha'.below hbel
        have hb1 := hb'.below hbel
        have hst := Lib.hid (show D.sameL (l.drop j) (m.drop j) = (x'.same y' && D.sameL (l.drop (j + 1)) (m.drop (j + 1))) by rw [drop_of_get ex, drop_of_get ey]; rfl)
        have hbel' := Lib.hid hbel
        have hz := hbel.size
        clear h1 h2 HA HB ha' hb' ex ey hbel hal Q
        go_wp2_with fail
        have hal := ((Below.refl wr.heap.size wr).alloc (Nat.le_refl _) (.cells #[Value.int IntKind.i64 x'.k, Value.int IntKind.i64 x'.i, Value.int IntKind.u64 x'.b, Value.string x'.t, Value.slice x'.A x'.l.length x'.c] 25)).alloc (by simp) (.cells #[Value.int IntKind.i64 y'.k, Value.int IntKind.i64 y'.i, Value.int IntKind.u64 y'.b, Value.string y'.t, Value.slice y'.A y'.l.length y'.c] 25)
        refine (IH.out x' y' _ hx (ha1.below hal) (hb1.below hal)).mono ?_
        rintro e w1 ⟨rfl, hbw⟩
        have hbb := Lib.hid (hbel'.out.trans ((hal.trans (hbw.mono hal.size)).mono hz))
        clear hbw hal
        cases hs : x'.same y'
        · go_wp2_with fail
          go_ret
          exact ⟨by rw [← hinv.out, hst.out, hs] <;> rfl, hbb.out⟩
        · go_wp2_with fail
          go_roundg (gk - 1)
          case measure => omega
          case rel => exact ⟨j + 1, by go_num, by omega, hbb.out, by unfold Hid; rw [← hinv.out, hst.out, hs] <;> rfl⟩
      · have hbel' := Lib.hid hbel
        clear hbel HA HB
        go_wp2_with fail
        go_ret
        refine ⟨?_, hbel'.out⟩
        rw [← hinv.out, List.drop_eq_nil_of_le (by omega), List.drop_eq_nil_of_le (by have := hlen.out; omega)] <;> rfl
  · have h1 : ((l.length : Int) != (m.length : Int)) = true := by simp; omega
    have h2 := Hr.out
    rw [D.sameL_len h] at h2
    subst h2
    clear IH HA HB Hr
    go_enter Tryz.func91, Tryz.ntmps91
    go_wp2_with fail
    go_ret
    exact ⟨rfl, Below.refl _ _⟩

set_option maxHeartbeats 1000000 in
set_option maxRecDepth 100000 in
theorem same0_any (n : Nat) : ∀ (a b : D) (w : World), a.size ≤ n → a.In w → b.In w →
    Calls Tryz.prog 50 #[a.v, b.v] w fun e w' => e = .returned (.bool (a.same b)) ∧ Below w.heap.size w w' := by
  induction n with
  | zero => intro a b w h; rw [D.size_eq] at h; omega
  | succ n ih =>
    intro a b w hn ha hb
    have hsn : D.sizeL a.l ≤ n := by rw [D.size_eq] at hn; omega
    have HA := fun w (ha : a.In w) => Lib.hid (show ∀ q x, a.l[q]? = some x → ((∃ ad, a.A = some ad ∧ At w (ad.add (q * 5)) x.cs) ∧ x.In w) ∧ x.size ≤ n from fun q x hq => ⟨ha.at_ hq, Nat.le_trans (D.sizeL_le hq) hsn⟩)
    have HB := fun w (hb : b.In w) => Lib.hid (show ∀ q x, b.l[q]? = some x → (∃ ad, b.A = some ad ∧ At w (ad.add (q * 5)) x.cs) ∧ x.In w from fun q x hq => hb.at_ hq)
    have har := ha.rng
    have hbr := hb.rng
    have hE := Lib.hid (fun w (ha : a.In w) (hb : b.In w) => eqFuncD_of n ih a.l b.l a.A b.A a.c b.c w (by unfold D.Rng at har; omega) (by unfold D.Rng at hbr; omega) (HA w ha) (HB w hb))
    have Hab := Lib.hid (And.intro ha hb)
    have hq : a.same b = (a.k == b.k && a.i == b.i && a.b == b.b && decide (a.t = b.t) && D.sameL a.l b.l) := by cases a; rw [D.same]; rfl
    have Hw := Lib.hid (fun (o o' : Obj) => ((Below.refl w.heap.size w).alloc (Nat.le_refl _) o).alloc (by simp) o')
    clear HA HB ih hsn hn ha hb har hbr
    simp only [D.v, D.cs]
    generalize a.same b = r at *
    generalize a.k = f0, a.i = f1, a.b = f2, a.t = f3, a.A = f4, a.l.length = f5, a.c = f6, b.k = g0, b.i = g1, b.b = g2, b.t = g3, b.A = g4, b.l.length = g5, b.c = g6, D.sameL a.l b.l = s at *
    by_cases h1 : f0 = g0
    · by_cases h2 : f1 = g1
      · by_cases h3 : f2 = g2
        · by_cases h4 : f3 = g3
          · have Hq := Lib.hid (show r = s by rw [hq]; simp [h1, h2, h3, h4])
            clear hq
            subst h1 h2 h3 h4
            go_enter Tryz.func50, Tryz.ntmps50
            go_wp2_with fail
            have hw := Hw.out (.cells #[Value.int .i64 f0, .int .i64 f1, .int .u64 f2, .string f3, .slice f4 f5 f6] 25) (.cells #[Value.int .i64 f0, .int .i64 f1, .int .u64 f2, .string f3, .slice g4 g5 g6] 25)
            refine (hE.out _ (Hab.out.1.below hw) (Hab.out.2.below hw)).mono ?_
            rintro e w1 ⟨rfl, hbw⟩
            have hbb := Lib.hid (hw.trans (hbw.mono hw.size))
            clear hw hbw
            go_wp2_with fail
            go_ret
            exact ⟨by rw [Hq.out] <;> rfl, hbb.out⟩
          · have Hq := Lib.hid (show r = false by rw [hq]; simp [h4])
            have h5 : ¬ f3.toList = g3.toList := fun e => h4 (toList_inj e)
            clear hq hE Hab
            subst h1 h2 h3
            go_enter Tryz.func50, Tryz.ntmps50
            go_wp2_with fail
            go_ret
            exact ⟨by rw [Hq.out] <;> rfl, Hw.out _ _⟩
        · have Hq := Lib.hid (show r = false by rw [hq]; simp [h3])
          clear hq hE Hab
          subst h1 h2
          go_enter Tryz.func50, Tryz.ntmps50
          go_wp2_with fail
          go_ret
          exact ⟨by rw [Hq.out] <;> rfl, Hw.out _ _⟩
      · have Hq := Lib.hid (show r = false by rw [hq]; simp [h2])
        clear hq hE Hab
        subst h1
        go_enter Tryz.func50, Tryz.ntmps50
        go_wp2_with fail
        go_ret
        exact ⟨by rw [Hq.out] <;> rfl, Hw.out _ _⟩
    · have Hq := Lib.hid (show r = false by rw [hq]; simp [h1])
      clear hq hE Hab
      go_enter Tryz.func50, Tryz.ntmps50
      go_wp2_with fail
      go_ret
      exact ⟨by rw [Hq.out] <;> rfl, Hw.out _ _⟩
end Go.Proofs.YtbhmeapnmpgggaaGreatDoor
