/- errs.value: the walk; what an error value is. Condition: none but that the error's fields are as they are. -/
import Derived.Test.YtbhmeapnmpgggaaGreatDoorKit
import Derived.Test.YtbhmeapnmpgggaaGreatDoorBaseE
import Derived.Laws.AppendOwn
import Derived.OwnWalk
namespace Go.Proofs.YtbhmeapnmpgggaaGreatDoor
open Go.RowKit

/-- v is the error value of e, in the world w; its block, where it has one, lies from B on -/
def EV (B : Nat) (w : World) (e : E) (v : Value) : Prop :=
  (e.k = 1 ∧ v = .iface 106 (.agg #[.int .i64 e.code, .string e.t])) ∨
  (e.k = 2 ∧ ∃ g, B ≤ g ∧ v = .iface 94 (.pointer (some ⟨g, 0, none⟩)) ∧ Blk w g 123 e.cs.toArray) ∨
  (e.k = 3 ∧ ∃ g, B ≤ g ∧ v = .iface 107 (.pointer (some ⟨g, 0, none⟩)) ∧ Blk w g 124 e.cs.toArray) ∨
  (e.k = 4 ∧ ∃ g, B ≤ g ∧ v = .iface 108 (.pointer (some ⟨g, 0, none⟩)) ∧ Blk w g 125 e.cs.toArray) ∨
  (e.k = 5 ∧ ∃ g, B ≤ g ∧ v = .iface 111 (.agg #[.pointer (some ⟨g, 0, none⟩)]) ∧ Blk w g 29 e.cs.toArray) ∨
  (e.k = 6 ∧ v = .iface 112 (.slice e.cA e.codes.length e.cc)) ∨
  (e.k = 7 ∧ v = .iface 94 (.pointer none)) ∨
  (e.k = 8 ∧ ∃ g, B ≤ g ∧ v = .iface 113 (.pointer (some ⟨g, 0, none⟩)) ∧ Blk w g 126 e.cs.toArray) ∨
  (e.k = 9 ∧ ∃ g, B ≤ g ∧ v = .iface 114 (.pointer (some ⟨g, 0, none⟩)) ∧ Blk w g 127 e.cs.toArray) ∨
  (e.k = 10 ∧ v = .iface 115 (.agg #[.int .i64 e.code, .string e.t])) ∨
  (¬ E.okK e.k ∨ e.k = 0) ∧ v = .nilIface
def ValueE (w : World) (d : E) (e : Ending) (w' : World) : Prop := ∃ v, e = .returned v ∧ EV w.heap.size w' d v ∧ Below w.heap.size w w'

set_option maxHeartbeats 2000000 in
set_option maxRecDepth 100000 in
theorem valueE_any (d : E) (w : World) : Calls Tryz.prog 54 #[d.v] w (ValueE w d) := by
  have hcs : d.cs.toArray = #[Value.int .i64 d.k, .int .i64 d.id, .int .i64 d.code, .string d.t, .int .i64 d.body.k, .int .i64 d.body.i, .int .u64 d.body.b, .string d.body.t, .slice d.body.A d.body.l.length d.body.c, .slice d.cA d.codes.length d.cc, .slice d.A d.l.length d.c] := rfl
  have hP : ∀ v w', Below w.heap.size w w' → EV w.heap.size w' d v → ValueE w d (.returned v) w' := fun v w' h1 h2 => ⟨v, rfl, h2, h1⟩
  have HP := Lib.hid hP
  unfold EV at HP
  rw [hcs] at HP
  clear hcs hP
  generalize ValueE w d = R at *
  simp only [E.v, E.cs]
  generalize d.k = f0, d.id = f1, d.code = f2, d.t = f3, d.body.k = f4, d.body.i = f5, d.body.b = f6, d.body.t = f7, d.body.A = f8, d.body.l.length = f9, d.body.c = f10, d.cA = f11, d.codes.length = f12, d.cc = f13, d.A = A, d.l.length = ll, d.c = c at *
  go_enter Tryz.func54, Tryz.ntmps54
  go_wp2_with fail
  all_goals first
    | (have e : f0 = 1 := eq_of_beq (by assumption); subst e; exact HP.out _ _ ((Below.refl _ _).alloc (Nat.le_refl _) _) (.inl ⟨rfl, rfl⟩))
    | (have e : f0 = 2 := eq_of_beq (by assumption); subst e; exact HP.out _ _ (((Below.refl _ _).alloc (Nat.le_refl _) _).alloc (by simp) _) (.inr (.inl ⟨rfl, w.heap.size + 1, by omega, rfl, Blk.new' (by simp) _ _⟩)))
    | (have e : f0 = 3 := eq_of_beq (by assumption); subst e; exact HP.out _ _ (((Below.refl _ _).alloc (Nat.le_refl _) _).alloc (by simp) _) (.inr (.inr (.inl ⟨rfl, w.heap.size + 1, by omega, rfl, Blk.new' (by simp) _ _⟩))))
    | (have e : f0 = 4 := eq_of_beq (by assumption); subst e; exact HP.out _ _ (((Below.refl _ _).alloc (Nat.le_refl _) _).alloc (by simp) _) (.inr (.inr (.inr (.inl ⟨rfl, w.heap.size + 1, by omega, rfl, Blk.new' (by simp) _ _⟩)))))
    | (have e : f0 = 5 := eq_of_beq (by assumption); subst e; exact HP.out _ _ ((Below.refl _ _).alloc (Nat.le_refl _) _) (.inr (.inr (.inr (.inr (.inl ⟨rfl, w.heap.size, Nat.le_refl _, rfl, Blk.new _ _ _⟩))))))
    | (have e : f0 = 6 := eq_of_beq (by assumption); subst e; exact HP.out _ _ ((Below.refl _ _).alloc (Nat.le_refl _) _) (.inr (.inr (.inr (.inr (.inr (.inl ⟨rfl, rfl⟩)))))))
    | (have e : f0 = 7 := eq_of_beq (by assumption); subst e; exact HP.out _ _ ((Below.refl _ _).alloc (Nat.le_refl _) _) (.inr (.inr (.inr (.inr (.inr (.inr (.inl ⟨rfl, rfl⟩))))))))
    | (have e : f0 = 8 := eq_of_beq (by assumption); subst e; exact HP.out _ _ (((Below.refl _ _).alloc (Nat.le_refl _) _).alloc (by simp) _) (.inr (.inr (.inr (.inr (.inr (.inr (.inr (.inl ⟨rfl, w.heap.size + 1, by omega, rfl, Blk.new' (by simp) _ _⟩)))))))))
    | (have e : f0 = 9 := eq_of_beq (by assumption); subst e; exact HP.out _ _ (((Below.refl _ _).alloc (Nat.le_refl _) _).alloc (by simp) _) (.inr (.inr (.inr (.inr (.inr (.inr (.inr (.inr (.inl ⟨rfl, w.heap.size + 1, by omega, rfl, Blk.new' (by simp) _ _⟩))))))))))
    | (have e : f0 = 10 := eq_of_beq (by assumption); subst e; exact HP.out _ _ ((Below.refl _ _).alloc (Nat.le_refl _) _) (.inr (.inr (.inr (.inr (.inr (.inr (.inr (.inr (.inr (.inl ⟨rfl, rfl⟩)))))))))))
    | (refine HP.out _ _ ((Below.refl _ _).alloc (Nat.le_refl _) _) (.inr (.inr (.inr (.inr (.inr (.inr (.inr (.inr (.inr (.inr (⟨?_, rfl⟩)))))))))))
       simp only [beq_eq_false_iff_ne, ne_eq] at *
       unfold E.okK
       omega)
end Go.Proofs.YtbhmeapnmpgggaaGreatDoor
/- errs: Unwrap of a wrapped, of a like and of many: the walks. Condition: the lists are as long as they must be. -/
namespace Go.Proofs.YtbhmeapnmpgggaaGreatDoor
open Go.RowKit

theorem EV.mono {B B' : Nat} (h : B' ≤ B) {w : World} {e : E} {v : Value} (hv : EV B w e v) : EV B' w e v := by
  unfold EV at hv ⊢
  rcases hv with a | ⟨a, g, b, c⟩ | ⟨a, g, b, c⟩ | ⟨a, g, b, c⟩ | ⟨a, g, b, c⟩ | a | a | ⟨a, g, b, c⟩ | ⟨a, g, b, c⟩ | a | a
  · exact .inl a
  · exact .inr (.inl ⟨a, g, by omega, c⟩)
  · exact .inr (.inr (.inl ⟨a, g, by omega, c⟩))
  · exact .inr (.inr (.inr (.inl ⟨a, g, by omega, c⟩)))
  · exact .inr (.inr (.inr (.inr (.inl ⟨a, g, by omega, c⟩))))
  · exact .inr (.inr (.inr (.inr (.inr (.inl a)))))
  · exact .inr (.inr (.inr (.inr (.inr (.inr (.inl a))))))
  · exact .inr (.inr (.inr (.inr (.inr (.inr (.inr (.inl ⟨a, g, by omega, c⟩)))))))
  · exact .inr (.inr (.inr (.inr (.inr (.inr (.inr (.inr (.inl ⟨a, g, by omega, c⟩))))))))
  · exact .inr (.inr (.inr (.inr (.inr (.inr (.inr (.inr (.inr (.inl a)))))))))
  · exact .inr (.inr (.inr (.inr (.inr (.inr (.inr (.inr (.inr (.inr a)))))))))
theorem EV.turn {B : Nat} {w w' : World} {e : E} {v : Value} (hv : EV B w e v) (ht : ∀ g t cs, B ≤ g → t ≠ 68 → Blk w g t cs → Blk w' g t cs) : EV B w' e v := by
  unfold EV at hv ⊢
  rcases hv with a | ⟨a, g, b, c, d⟩ | ⟨a, g, b, c, d⟩ | ⟨a, g, b, c, d⟩ | ⟨a, g, b, c, d⟩ | a | a | ⟨a, g, b, c, d⟩ | ⟨a, g, b, c, d⟩ | a | a
  · exact .inl a
  · exact .inr (.inl ⟨a, g, b, c, ht _ _ _ b (by decide) d⟩)
  · exact .inr (.inr (.inl ⟨a, g, b, c, ht _ _ _ b (by decide) d⟩))
  · exact .inr (.inr (.inr (.inl ⟨a, g, b, c, ht _ _ _ b (by decide) d⟩)))
  · exact .inr (.inr (.inr (.inr (.inl ⟨a, g, b, c, ht _ _ _ b (by decide) d⟩))))
  · exact .inr (.inr (.inr (.inr (.inr (.inl a)))))
  · exact .inr (.inr (.inr (.inr (.inr (.inr (.inl a))))))
  · exact .inr (.inr (.inr (.inr (.inr (.inr (.inr (.inl ⟨a, g, b, c, ht _ _ _ b (by decide) d⟩)))))))
  · exact .inr (.inr (.inr (.inr (.inr (.inr (.inr (.inr (.inl ⟨a, g, b, c, ht _ _ _ b (by decide) d⟩))))))))
  · exact .inr (.inr (.inr (.inr (.inr (.inr (.inr (.inr (.inr (.inl a)))))))))
  · exact .inr (.inr (.inr (.inr (.inr (.inr (.inr (.inr (.inr (.inr a)))))))))
theorem EV.below {B : Nat} {w w' : World} {e : E} {v : Value} (hv : EV B w e v) (hb : Below w.heap.size w w') : EV B w' e v :=
  hv.turn fun _ _ _ _ _ h => h.below hb h.lt
theorem EV.kept {B : Nat} {bs : List Nat} {w w' : World} {e : E} {v : Value} (hv : EV B w e v) (hb : Kept bs w w') (hs : ∀ k ∈ bs, k < B) : EV B w' e v :=
  hv.turn fun g _ _ hg _ h => h.kept hb fun hm => by have := hs g hm; omega

set_option maxHeartbeats 2000000 in
set_option maxRecDepth 100000 in
theorem unwrapW_any (e x : E) (g : Nat) (w : World) (hg : Blk w g 124 e.cs.toArray) (he : e.In w) (hx : e.l[0]? = some x) :
    Calls Tryz.prog 206 #[.pointer (some ⟨g, 0, none⟩)] w (ValueE w x) := by
  obtain ⟨⟨ad, hA, hat⟩, hxin⟩ := he.at_ hx
  have hl : 0 < e.l.length := (List.getElem?_eq_some_iff.1 hx).1
  have hr := he.rng
  have hc10 : w.cell? ⟨g, 10, none⟩ = some (.slice (some ad) e.l.length e.c) := by rw [hg.cell 10, ← hA]; rfl
  have h11 := hat.eleven
  have had : ad.add (0 * 11) = ad := by rw [Nat.zero_mul]; rfl
  rw [had] at h11
  have hv := Lib.hid (valueE_any x w)
  have hP : ∀ v w', EV w.heap.size w' x v → Below w.heap.size w w' → ValueE w x (.returned v) w' := fun v w' h1 h2 => ⟨v, rfl, h1, h2⟩
  have HP := Lib.hid hP
  clear hP
  have hsz : (e.l.length : Int) ≤ 9223372036854775807 := by have := hr.2.2.2.2.2.2.2.1; have := hr.2.2.2.2.2.2.2.2.1; omega
  have hne : ¬ (e.l.length : Int) = 0 := by omega
  simp only [E.v, E.cs] at hv
  generalize e.l.length = L, e.c = C at *
  generalize hR : ValueE w x = R at HP ⊢
  clear hR
  have hv2 := hv
  clear hv
  unfold ValueE at hv2
  generalize EV w.heap.size = Ev at *
  generalize x.k = f0, x.id = f1, x.code = f2, x.t = f3, x.body.k = f4, x.body.i = f5, x.body.b = f6, x.body.t = f7, x.body.A = f8, x.body.l.length = f9, x.body.c = f10, x.cA = f11, x.codes.length = f12, x.cc = f13, x.A = A, x.l.length = ll, x.c = c at *
  clear hr hxin hat he hx hg hA
  obtain ⟨a0, a1, a2, a3, a4, a5, a6, a7, a8, a9, a10⟩ := h11
  go_enter Tryz.func206, Tryz.ntmps206
  go_wp2_with (go_at_call 54; refine hv2.out.mono ?_; rintro e w1 ⟨v, rfl, hev, hb⟩)
  all_goals exact HP.out _ _ ‹_› ‹_›
set_option maxHeartbeats 2000000 in
set_option maxRecDepth 100000 in
theorem unwrapL_any (e x : E) (g : Nat) (w : World) (hg : Blk w g 126 e.cs.toArray) (he : e.In w) (hx : e.l[0]? = some x) :
    Calls Tryz.prog 219 #[.pointer (some ⟨g, 0, none⟩)] w (ValueE w x) := by
  obtain ⟨⟨ad, hA, hat⟩, hxin⟩ := he.at_ hx
  have hl : 0 < e.l.length := (List.getElem?_eq_some_iff.1 hx).1
  have hr := he.rng
  have hc10 : w.cell? ⟨g, 10, none⟩ = some (.slice (some ad) e.l.length e.c) := by rw [hg.cell 10, ← hA]; rfl
  have h11 := hat.eleven
  have had : ad.add (0 * 11) = ad := by rw [Nat.zero_mul]; rfl
  rw [had] at h11
  have hv := Lib.hid (valueE_any x w)
  have hP : ∀ v w', EV w.heap.size w' x v → Below w.heap.size w w' → ValueE w x (.returned v) w' := fun v w' h1 h2 => ⟨v, rfl, h1, h2⟩
  have HP := Lib.hid hP
  clear hP
  have hsz : (e.l.length : Int) ≤ 9223372036854775807 := by have := hr.2.2.2.2.2.2.2.1; have := hr.2.2.2.2.2.2.2.2.1; omega
  have hne : ¬ (e.l.length : Int) = 0 := by omega
  simp only [E.v, E.cs] at hv
  generalize e.l.length = L, e.c = C at *
  generalize hR : ValueE w x = R at HP ⊢
  clear hR
  have hv2 := hv
  clear hv
  unfold ValueE at hv2
  generalize EV w.heap.size = Ev at *
  generalize x.k = f0, x.id = f1, x.code = f2, x.t = f3, x.body.k = f4, x.body.i = f5, x.body.b = f6, x.body.t = f7, x.body.A = f8, x.body.l.length = f9, x.body.c = f10, x.cA = f11, x.codes.length = f12, x.cc = f13, x.A = A, x.l.length = ll, x.c = c at *
  clear hr hxin hat he hx hg hA
  obtain ⟨a0, a1, a2, a3, a4, a5, a6, a7, a8, a9, a10⟩ := h11
  go_enter Tryz.func219, Tryz.ntmps219
  go_wp2_with (go_at_call 54; refine hv2.out.mono ?_; rintro e w1 ⟨v, rfl, hev, hb⟩)
  all_goals exact HP.out _ _ ‹_› ‹_›
set_option maxHeartbeats 2000000 in
set_option maxRecDepth 100000 in
theorem unwrapL_none (e : E) (g : Nat) (w : World) (hg : Blk w g 126 e.cs.toArray) (hx : e.l = []) :
    Calls Tryz.prog 219 #[.pointer (some ⟨g, 0, none⟩)] w fun en w' => en = .returned .nilIface ∧ w' = w := by
  have hc10 : w.cell? ⟨g, 10, none⟩ = some (.slice e.A 0 e.c) := by rw [hg.cell 10]; simp [E.cs, hx]
  clear hg hx
  generalize e.A = A, e.c = C at *
  go_enter Tryz.func219, Tryz.ntmps219
  go_wp2_with fail
  all_goals go_ret
  all_goals exact ⟨rfl, rfl⟩
end Go.Proofs.YtbhmeapnmpgggaaGreatDoor
/- errs: Unwrap of many: the walk. Condition: at most 4096 parts. -/
namespace Go.Proofs.YtbhmeapnmpgggaaGreatDoor
open Go.RowKit

theorem infoError : (Tryz.prog.info? 68).map (fun i => (i.zero, i.size, i.bytes)) = some (some .nilIface, 1, 16) := by kernel_rfl
theorem own_below {w w' : World} {B e size n : Nat} {v : Value} {xs : List Value} (h : w.ownsRow B e size v n xs) (hb : Below w.heap.size w w') : w'.ownsRow B e size v n xs := by
  refine ⟨h.1, ?_⟩
  rcases h.2 with h2 | ⟨g, cap, cur, rfl, h3, h4, h5⟩
  · exact .inl h2
  · refine .inr ⟨g, cap, cur, rfl, h3, ?_, h5⟩
    have hlt : g < w.heap.size := by
      rcases Nat.lt_or_ge g w.heap.size with a | a
      · exact a
      · rw [Array.getElem?_eq_none a] at h4; cases h4
    exact (hb.block g hlt).trans h4
theorem EV.grown {B base : Nat} {w w' : World} {e : E} {v s : Value} {n : Nat} {xs : List Value} (hv : EV B w e v) (hown : w.ownsRow base 68 1 s n xs) (hg : w.grownBy w' s.ownBlock) : EV B w' e v :=
  hv.turn fun g t cs _ ht h => (hg.block g h.lt fun he => by
    rcases hown.2 with ⟨rfl, _⟩ | ⟨g', cap, cur, rfl, _, h4, _⟩
    · simp [Value.ownBlock] at he
    · simp [Value.ownBlock] at he
      subst he
      unfold Blk at h
      rw [h] at h4
      simp at h4
      exact ht h4.2).trans h
theorem EV.one {B : Nat} {w : World} {e : E} {v : Value} (hv : EV B w e v) : v.oneCell' = true := by
  unfold EV at hv
  rcases hv with ⟨a, rfl⟩ | ⟨a, g, b, rfl, d⟩ | ⟨a, g, b, rfl, d⟩ | ⟨a, g, b, rfl, d⟩ | ⟨a, g, b, rfl, d⟩ | ⟨a, rfl⟩ | ⟨a, rfl⟩ | ⟨a, g, b, rfl, d⟩ | ⟨a, g, b, rfl, d⟩ | ⟨a, rfl⟩ | ⟨a, rfl⟩ <;> rfl
theorem EV.cells {B : Nat} {w : World} {e : E} {v : Value} (hv : EV B w e v) : v.cells = #[v] := by
  unfold EV at hv
  rcases hv with ⟨a, rfl⟩ | ⟨a, g, b, rfl, d⟩ | ⟨a, g, b, rfl, d⟩ | ⟨a, g, b, rfl, d⟩ | ⟨a, g, b, rfl, d⟩ | ⟨a, rfl⟩ | ⟨a, rfl⟩ | ⟨a, g, b, rfl, d⟩ | ⟨a, g, b, rfl, d⟩ | ⟨a, rfl⟩ | ⟨a, rfl⟩ <;> rfl
theorem EV.slice1 {B : Nat} {w : World} {e : E} {v : Value} (hv : EV B w e v) : ∀ w', (Instr.buildSlice 134 1 #[(0, v)]).run Tryz.prog w' = .ok (.slice (some ⟨w'.heap.size, 0, none⟩) 1 1) (w'.alloc (.cells #[v] 68)) := by
  unfold EV at hv
  intro w'
  rcases hv with ⟨a, rfl⟩ | ⟨a, g, b, rfl, d⟩ | ⟨a, g, b, rfl, d⟩ | ⟨a, g, b, rfl, d⟩ | ⟨a, g, b, rfl, d⟩ | ⟨a, rfl⟩ | ⟨a, rfl⟩ | ⟨a, g, b, rfl, d⟩ | ⟨a, g, b, rfl, d⟩ | ⟨a, rfl⟩ | ⟨a, rfl⟩ <;> kernel_rfl
/-- the first j of a list have these error values -/
def Vals (base : Nat) (w : World) (l : List E) (j : Nat) (vs : List Value) : Prop := ∀ q x, q < j → l[q]? = some x → ∃ v, vs[q]? = some v ∧ EV base w x v
theorem many_step {base j : Nat} {w wr w1 w2 : World} {l : List E} {x : E} {s s' v : Value} {vs : List Value} {o o2 : Obj} (hb : Below base w wr) (hz : base ≤ wr.heap.size)
    (hown : wr.ownsRow base 68 1 s j vs) (hE : Vals base wr l j vs) (hx : l[j]? = some x) (hev : EV (wr.alloc o).heap.size w1 x v) (hbw : Below (wr.alloc o).heap.size (wr.alloc o) w1)
    (hown2 : w2.ownsRow base 68 1 s' (j + 1) (vs ++ [v])) (hg : (w1.alloc o2).grownBy w2 s.ownBlock) : Below base w w2 ∧ base ≤ w2.heap.size ∧ Vals base w2 l (j + 1) (vs ++ [v]) := by
  have ha : Below wr.heap.size wr (w1.alloc o2) := by
    have h0 := (Below.refl wr.heap.size wr).alloc (Nat.le_refl _) o
    have hs : (wr.alloc o).heap.size = wr.heap.size + 1 := by simp
    have h1 := h0.trans (hbw.mono (by omega))
    exact h1.alloc h1.size o2
  have hownA := own_below hown ha
  have hlt := fun k h => (hownA.lt k h).1
  refine ⟨(hb.trans (ha.mono hz)).grown hg (Nat.le_trans hz ha.size) hlt, Nat.le_trans hz (Nat.le_trans ha.size hg.size), ?_⟩
  intro q y hq hy
  have hvl : vs.length = j := by have := hown.1; omega
  by_cases hqj : q < j
  · obtain ⟨u, hu, hev'⟩ := hE q y hqj hy
    exact ⟨u, by rw [List.getElem?_append_left (by omega)]; exact hu, (hev'.below ha).grown hownA hg⟩
  · have : q = j := by omega
    subst this
    rw [hx] at hy
    injection hy with hy
    subst hy
    refine ⟨v, by rw [List.getElem?_append_right (by omega)]; simp [hvl], ((hev.mono ?_).below ((Below.refl _ _).alloc (Nat.le_refl _) _)).grown hownA hg⟩
    have : (wr.alloc o).heap.size = wr.heap.size + 1 := by simp
    omega

set_option maxHeartbeats 2000000 in
set_option maxRecDepth 100000 in
theorem unwrapM_any (e : E) (g : Nat) (w : World) (hg : Blk w g 125 e.cs.toArray) (he : e.In w) (hl4 : e.l.length ≤ 4096) :
    Calls Tryz.prog 210 #[.pointer (some ⟨g, 0, none⟩)] w fun en w' => ∃ s vs, en = .returned s ∧ w'.ownsRow w.heap.size 68 1 s e.l.length vs ∧ Vals w.heap.size w' e.l e.l.length vs ∧ Below w.heap.size w w' := by
  have hc10 : w.cell? ⟨g, 10, none⟩ = some (.slice e.A e.l.length e.c) := by rw [hg.cell 10]; rfl
  have hv := Lib.hid (fun x w => valueE_any x w)
  have HA := Lib.hid (show ∀ q x, e.l[q]? = some x → ((∃ ad, e.A = some ad ∧ At w (ad.add (q * 11)) x.cs)) from fun q x hq => (he.at_ hq).1)
  clear he hg
  generalize e.A = A, e.c = C at *
  generalize e.l = l at *
  obtain ⟨i0, hi, hz0, hz1, hz2⟩ := info_parts infoError
  go_enter Tryz.func210, Tryz.ntmps210
  go_wp2_with fail
  go_loopg [3, 12] l.length (fun gk s i wr => ∃ (j : Nat) (vs : List Value), i = .int .i64 j ∧ j + gk = l.length ∧ Below w.heap.size w wr ∧ w.heap.size ≤ wr.heap.size ∧ wr.ownsRow w.heap.size 68 1 s j vs ∧ Vals w.heap.size wr l j vs)
  case atStart => exact ⟨0, [], rfl, by omega, Below.refl _ _, Nat.le_refl _, World.ownsRow_nil _ _ _ _, fun q x hq => by omega⟩
  case round =>
    obtain ⟨j, vs, rfl, hj, hb, hz, hown, hE⟩ := hrel
    by_cases hlt : j < l.length
    · obtain ⟨x, ex⟩ : ∃ x, l[j]? = some x := ⟨_, List.getElem?_eq_getElem hlt⟩
      obtain ⟨ad, rfl, h1⟩ := HA.out j x ex
      obtain ⟨p0, p1, p2, p3, p4, p5, p6, p7, p8, p9, p10⟩ := (h1.below hb).eleven
      have hst := Lib.hid (fun w1 w2 s' v o o2 h1 h2 h3 h4 => many_step (w1 := w1) (w2 := w2) (s' := s') (v := v) (o := o) (o2 := o2) hb hz hown hE ex h1 h2 h3 h4)
      have Hb := Lib.hid (And.intro hb hown)
      have hv1 := Lib.hid (hv.out x)
      clear hb hown hE h1 ex HA hv
      have hv2 := hv1.out
      unfold ValueE at hv2
      simp only [E.v, E.cs] at hv2
      have HV := Lib.hid hv2
      clear hv1 hv2
      go_wp2_with (first
        | (go_at_call 54; refine (HV.out _).mono ?_; rintro en w1 ⟨v, rfl, hev, hbw⟩; have hvc := hev.cells; unfold Value.cells at hvc; have hvo := hev.one; have hz1' : w.heap.size ≤ w1.heap.size := (by have := hbw.size; simp at this; omega); have HE := Lib.hid hev; clear hev; have hOw := Lib.hid ((own_below (Hb.out.2.alloc _) hbw).alloc (.cells #[v] 68)); have HBW := Lib.hid hbw; clear hbw)
        | (at_builtin; refine wpList_append_own _ rfl _ _ 134 rfl w.heap.size 68 i0 .nilIface 1 16 Tryz.underlying134 hi hz0 hz1 hz2 rfl (by decide) _ _ _ rfl hOw.out ⟨w1.heap.size, 0, none⟩ 1 1 [v] rfl rfl ?c1 ?c2 ?c3 ?c4 ?c5 ?_))
      case c1 =>
        intro i u hu
        match i, hu with
        | 0, hu => simp at hu; subst hu; simp [Addr.add, go_sem]
      case c2 => intro u hu; simp at hu; subst hu; exact hvo
      case c3 => unfold maxLen; omega
      case c4 => omega
      case c5 => simp; omega
      · intro s' w2 hown2 hg2 _
        have hw := Lib.hid (hst.out w1 w2 s' v _ _ HE.out HBW.out hown2 hg2)
        have Ho := Lib.hid hown2
        clear hown2 hg2 hst HE HBW hOw HV Hb p0 p1 p2 p3 p4 p5 p6 p7 p8 p9 p10 hvc
        go_wp2_with fail
        go_roundg (gk - 1)
        case measure => omega
        case rel => exact ⟨j + 1, vs ++ [v], by go_num, by omega, hw.out.1, hw.out.2.1, Ho.out, hw.out.2.2⟩
    · have hj' : j = l.length := by omega
      subst hj'
      have Hw := Lib.hid (And.intro hown (And.intro hE hb))
      clear hown hE hb HA hv
      go_wp2_with fail
      go_ret
      exact ⟨_, vs, rfl, Hw.out⟩
end Go.Proofs.YtbhmeapnmpgggaaGreatDoor
