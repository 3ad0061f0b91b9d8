/- errs: Unwrap of a wrapped, of a like and of many: the walks. Condition: the lists are as long as they must be. -/
import Derived.Test.YtbhmeapnmpgggaaGreatDoorValueE
import Derived.Laws.AppendOwn
import Derived.OwnWalk
namespace Go.Proofs.YtbhmeapnmpgggaaGreatDoor
open Go.RowKit

theorem EV.mono {B B' : Nat} (h : B' ≤ B) {w : World} {e : E} {v : Value} (hv : EV B w e v) : EV B' w e v := by
  unfold EV at hv ⊢
  rcases hv with a | ⟨a, g, b, c⟩ | ⟨a, g, b, c⟩ | ⟨a, g, b, c⟩ | ⟨a, g, b, c⟩ | a | a | ⟨a, g, b, c⟩ | ⟨a, g, b, c⟩ | a | a
  · exact .inl a
  · exact .inr (.inl ⟨a, g, by omega, c⟩)
  · exact .inr (.inr (.inl ⟨a, g, by omega, c⟩))
  · exact .inr (.inr (.inr (.inl ⟨a, g, by omega, c⟩)))
  · exact .inr (.inr (.inr (.inr (.inl ⟨a, g, by omega, c⟩))))
  · exact .inr (.inr (.inr (.inr (.inr (.inl a)))))
  · exact .inr (.inr (.inr (.inr (.inr (.inr (.inl a))))))
  · exact .inr (.inr (.inr (.inr (.inr (.inr (.inr (.inl ⟨a, g, by omega, c⟩)))))))
  · exact .inr (.inr (.inr (.inr (.inr (.inr (.inr (.inr (.inl ⟨a, g, by omega, c⟩))))))))
  · exact .inr (.inr (.inr (.inr (.inr (.inr (.inr (.inr (.inr (.inl a)))))))))
  · exact .inr (.inr (.inr (.inr (.inr (.inr (.inr (.inr (.inr (.inr a)))))))))
theorem EV.turn {B : Nat} {w w' : World} {e : E} {v : Value} (hv : EV B w e v) (ht : ∀ g t cs, B ≤ g → t ≠ 68 → Blk w g t cs → Blk w' g t cs) : EV B w' e v := by
  unfold EV at hv ⊢
  rcases hv with a | ⟨a, g, b, c, d⟩ | ⟨a, g, b, c, d⟩ | ⟨a, g, b, c, d⟩ | ⟨a, g, b, c, d⟩ | a | a | ⟨a, g, b, c, d⟩ | ⟨a, g, b, c, d⟩ | a | a
  · exact .inl a
  · exact .inr (.inl ⟨a, g, b, c, ht _ _ _ b (by decide) d⟩)
  · exact .inr (.inr (.inl ⟨a, g, b, c, ht _ _ _ b (by decide) d⟩))
  · exact .inr (.inr (.inr (.inl ⟨a, g, b, c, ht _ _ _ b (by decide) d⟩)))
  · exact .inr (.inr (.inr (.inr (.inl ⟨a, g, b, c, ht _ _ _ b (by decide) d⟩))))
  · exact .inr (.inr (.inr (.inr (.inr (.inl a)))))
  · exact .inr (.inr (.inr (.inr (.inr (.inr (.inl a))))))
  · exact .inr (.inr (.inr (.inr (.inr (.inr (.inr (.inl ⟨a, g, b, c, ht _ _ _ b (by decide) d⟩)))))))
  · exact .inr (.inr (.inr (.inr (.inr (.inr (.inr (.inr (.inl ⟨a, g, b, c, ht _ _ _ b (by decide) d⟩))))))))
  · exact .inr (.inr (.inr (.inr (.inr (.inr (.inr (.inr (.inr (.inl a)))))))))
  · exact .inr (.inr (.inr (.inr (.inr (.inr (.inr (.inr (.inr (.inr a)))))))))
theorem EV.below {B : Nat} {w w' : World} {e : E} {v : Value} (hv : EV B w e v) (hb : Below w.heap.size w w') : EV B w' e v :=
  hv.turn fun _ _ _ _ _ h => h.below hb h.lt
theorem EV.kept {B : Nat} {bs : List Nat} {w w' : World} {e : E} {v : Value} (hv : EV B w e v) (hb : Kept bs w w') (hs : ∀ k ∈ bs, k < B) : EV B w' e v :=
  hv.turn fun g _ _ hg _ h => h.kept hb fun hm => by have := hs g hm; omega

set_option maxHeartbeats 2000000 in
set_option maxRecDepth 100000 in
theorem unwrapW_any (e x : E) (g : Nat) (w : World) (hg : Blk w g 124 e.cs.toArray) (he : e.In w) (hx : e.l[0]? = some x) :
    Calls Tryz.prog 206 #[.pointer (some ⟨g, 0, none⟩)] w (ValueE w x) := by
  obtain ⟨⟨ad, hA, hat⟩, hxin⟩ := he.at_ hx
  have hl : 0 < e.l.length := (List.getElem?_eq_some_iff.1 hx).1
  have hr := he.rng
  have hc10 : w.cell? ⟨g, 10, none⟩ = some (.slice (some ad) e.l.length e.c) := by rw [hg.cell 10, ← hA]; rfl
  have h11 := hat.eleven
  have had : ad.add (0 * 11) = ad := by rw [Nat.zero_mul]; rfl
  rw [had] at h11
  have hv := Lib.hid (valueE_any x w)
  have hP : ∀ v w', EV w.heap.size w' x v → Below w.heap.size w w' → ValueE w x (.returned v) w' := fun v w' h1 h2 => ⟨v, rfl, h1, h2⟩
  have HP := Lib.hid hP
  clear hP
  have hsz : (e.l.length : Int) ≤ 9223372036854775807 := by have := hr.2.2.2.2.2.2.2.1; have := hr.2.2.2.2.2.2.2.2.1; omega
  have hne : ¬ (e.l.length : Int) = 0 := by omega
  simp only [E.v, E.cs] at hv
  generalize e.l.length = L, e.c = C at *
  generalize hR : ValueE w x = R at HP ⊢
  clear hR
  have hv2 := hv
  clear hv
  unfold ValueE at hv2
  generalize EV w.heap.size = Ev at *
  generalize x.k = f0, x.id = f1, x.code = f2, x.t = f3, x.body.k = f4, x.body.i = f5, x.body.b = f6, x.body.t = f7, x.body.A = f8, x.body.l.length = f9, x.body.c = f10, x.cA = f11, x.codes.length = f12, x.cc = f13, x.A = A, x.l.length = ll, x.c = c at *
  clear hr hxin hat he hx hg hA
  obtain ⟨a0, a1, a2, a3, a4, a5, a6, a7, a8, a9, a10⟩ := h11
  go_enter Tryz.func206, Tryz.ntmps206
  go_wp2_with (go_at_call 54; refine hv2.out.mono ?_; rintro e w1 ⟨v, rfl, hev, hb⟩)
  all_goals exact HP.out _ _ ‹_› ‹_›
set_option maxHeartbeats 2000000 in
set_option maxRecDepth 100000 in
theorem unwrapL_any (e x : E) (g : Nat) (w : World) (hg : Blk w g 126 e.cs.toArray) (he : e.In w) (hx : e.l[0]? = some x) :
    Calls Tryz.prog 219 #[.pointer (some ⟨g, 0, none⟩)] w (ValueE w x) := by
  obtain ⟨⟨ad, hA, hat⟩, hxin⟩ := he.at_ hx
  have hl : 0 < e.l.length := (List.getElem?_eq_some_iff.1 hx).1
  have hr := he.rng
  have hc10 : w.cell? ⟨g, 10, none⟩ = some (.slice (some ad) e.l.length e.c) := by rw [hg.cell 10, ← hA]; rfl
  have h11 := hat.eleven
  have had : ad.add (0 * 11) = ad := by rw [Nat.zero_mul]; rfl
  rw [had] at h11
  have hv := Lib.hid (valueE_any x w)
  have hP : ∀ v w', EV w.heap.size w' x v → Below w.heap.size w w' → ValueE w x (.returned v) w' := fun v w' h1 h2 => ⟨v, rfl, h1, h2⟩
  have HP := Lib.hid hP
  clear hP
  have hsz : (e.l.length : Int) ≤ 9223372036854775807 := by have := hr.2.2.2.2.2.2.2.1; have := hr.2.2.2.2.2.2.2.2.1; omega
  have hne : ¬ (e.l.length : Int) = 0 := by omega
  simp only [E.v, E.cs] at hv
  generalize e.l.length = L, e.c = C at *
  generalize hR : ValueE w x = R at HP ⊢
  clear hR
  have hv2 := hv
  clear hv
  unfold ValueE at hv2
  generalize EV w.heap.size = Ev at *
  generalize x.k = f0, x.id = f1, x.code = f2, x.t = f3, x.body.k = f4, x.body.i = f5, x.body.b = f6, x.body.t = f7, x.body.A = f8, x.body.l.length = f9, x.body.c = f10, x.cA = f11, x.codes.length = f12, x.cc = f13, x.A = A, x.l.length = ll, x.c = c at *
  clear hr hxin hat he hx hg hA
  obtain ⟨a0, a1, a2, a3, a4, a5, a6, a7, a8, a9, a10⟩ := h11
  go_enter Tryz.func219, Tryz.ntmps219
  go_wp2_with (go_at_call 54; refine hv2.out.mono ?_; rintro e w1 ⟨v, rfl, hev, hb⟩)
  all_goals exact HP.out _ _ ‹_› ‹_›
set_option maxHeartbeats 2000000 in
set_option maxRecDepth 100000 in
theorem unwrapL_none (e : E) (g : Nat) (w : World) (hg : Blk w g 126 e.cs.toArray) (hx : e.l = []) :
    Calls Tryz.prog 219 #[.pointer (some ⟨g, 0, none⟩)] w fun en w' => en = .returned .nilIface ∧ w' = w := by
  have hc10 : w.cell? ⟨g, 10, none⟩ = some (.slice e.A 0 e.c) := by rw [hg.cell 10]; simp [E.cs, hx]
  clear hg hx
  generalize e.A = A, e.c = C at *
  go_enter Tryz.func219, Tryz.ntmps219
  go_wp2_with fail
  all_goals go_ret
  all_goals exact ⟨rfl, rfl⟩
end Go.Proofs.YtbhmeapnmpgggaaGreatDoor
