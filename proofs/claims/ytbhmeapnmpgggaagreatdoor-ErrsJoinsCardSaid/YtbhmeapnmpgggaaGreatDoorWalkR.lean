/- The ways through an error's tree; slices of ways in memory, and a step that appends one. No condition. -/
import Derived.Test.YtbhmeapnmpgggaaGreatDoorCopyE
namespace Go.Proofs.YtbhmeapnmpgggaaGreatDoor
open Go.RowKit

mutual
/-- the ways to all errors of a tree -/
def E.ways : E → List (List Int)
  | .mk k _ _ _ _ _ _ _ _ _ l => if k = 0 then [] else [] :: E.waysL 0 l
def E.waysL : Nat → List E → List (List Int)
  | _, [] => []
  | i, x :: l => x.ways.map ((i : Int) :: ·) ++ E.waysL (i + 1) l
end
mutual
theorem E.ways_len : ∀ e : E, e.ways.length ≤ e.size
  | .mk k _ _ _ _ _ _ _ _ _ l => by
    have := E.waysL_len 0 l
    rw [E.ways, E.size]
    split
    · simp
    · rw [List.length_cons]; omega
theorem E.waysL_len : ∀ (i : Nat) (l : List E), (E.waysL i l).length ≤ E.sizeL l
  | _, [] => Nat.le_refl _
  | i, x :: l => by
    have h1 := E.ways_len x
    have h2 := E.waysL_len (i + 1) l
    rw [E.waysL, E.sizeL, List.length_append, List.length_map]
    omega
end
mutual
theorem E.ways_le : ∀ (e : E) (w : List Int), w ∈ e.ways → w.length + 1 ≤ e.size
  | .mk k _ _ _ _ _ _ _ _ _ l, w, h => by
    rw [E.ways] at h
    rw [E.size]
    split at h
    · simp at h
    · rcases List.mem_cons.1 h with rfl | h
      · simp
      · have := E.waysL_le 0 l w h; omega
theorem E.waysL_le : ∀ (i : Nat) (l : List E) (w : List Int), w ∈ E.waysL i l → w.length ≤ E.sizeL l
  | _, [], w, h => by rw [E.waysL] at h; simp at h
  | i, x :: l, w, h => by
    rw [E.waysL] at h
    rw [E.sizeL]
    rcases List.mem_append.1 h with h | h
    · obtain ⟨v, hv, rfl⟩ := List.mem_map.1 h
      have := E.ways_le x v hv
      rw [List.length_cons]; omega
    · have := E.waysL_le (i + 1) l w h; omega
end
theorem E.waysL_take : ∀ (l : List E) (i j : Nat) (x : E), l[j]? = some x → E.waysL i (l.take (j + 1)) = E.waysL i (l.take j) ++ x.ways.map (((i + j : Nat) : Int) :: ·)
  | [], i, j, x, h => by simp at h
  | y :: l, i, 0, x, h => by
    have : y = x := by simpa using h
    subst this
    simp [E.waysL]
  | y :: l, i, j + 1, x, h => by
    have := E.waysL_take l (i + 1) j x (by simpa using h)
    rw [List.take_succ_cons, List.take_succ_cons, E.waysL, E.waysL, this, List.append_assoc, show i + 1 + j = i + (j + 1) from by omega]
theorem E.ways_eq (e : E) (h : e.k ≠ 0) : e.ways = [] :: E.waysL 0 e.l := by
  obtain ⟨k, id, code, t, body, cA, cc, codes, A, c, l⟩ := e
  have h : ¬ k = 0 := h
  rw [E.ways, if_neg h]
  rfl

theorem infoInts : (Tryz.prog.info? 49).map (fun i => (i.zero, i.size, i.bytes)) = some (some (.slice none 0 0), 1, 24) := by kernel_rfl
theorem own_ints {T : TypeId} {w : World} {B n : Nat} {v : Value} {l : List Int} (h : w.ownsRow B T 1 v n (l.map (Value.int .i64))) : ∃ A c, v = .slice A l.length c ∧ CodesIn w A l ∧ (∀ ad, A = some ad → B ≤ ad.block) ∧ l.length ≤ c ∧ c ≤ 9223372036854775807 := by
  have hn : l.length = n := by have := h.1; simpa using this
  rcases h.2 with ⟨rfl, hx⟩ | ⟨g, cap, cur, rfl, h3, h4, h5, h6, h7, h8⟩
  · have : l = [] := by
      first | (simp at hx; exact List.eq_nil_of_length_eq_zero (by omega)) | exact List.eq_nil_of_length_eq_zero (by omega)
    subst this
    exact ⟨none, 0, rfl, (fun q x hq => by simp at hq), (fun ad e => by cases e), by simp, by simp⟩
  · refine ⟨some ⟨g, 0, none⟩, cap, by rw [hn], fun q x hq => ⟨⟨g, 0, none⟩, rfl, ?_⟩, fun ad e => by injection e with e; subst e; exact h3, by omega, by simpa [maxLen] using h6⟩
    exact h.cells (g := g) rfl q _ (by rw [List.getElem?_map, hq]; rfl)
set_option maxRecDepth 100000 in
/-- numbers appended to an own row of numbers -/
theorem run_append_ints {w : World} {B : Nat} {v : Value} {xs l : List Int} (hown : w.ownsRow B 3 1 v xs.length (xs.map (Value.int .i64))) (A : Option Addr) (c : Nat) (hl : CodesIn w A l) (h1 : l.length ≤ 1000000) (h2 : xs.length ≤ 1000000) (hB : B ≤ w.heap.size) :
    ∃ v' w', (Builtin.append_ #[49, 49] 49 #[v, .slice A l.length c]).run Tryz.prog w = .ok v' w' ∧ w'.ownsRow B 3 1 v' (xs ++ l).length ((xs ++ l).map (Value.int .i64)) ∧ w.grownBy w' v.ownBlock := by
  obtain ⟨i0, hi, hz0, hz1, hz2⟩ := info_parts infoInt
  cases A with
  | none =>
    have : l = [] := by
      cases l with
      | nil => rfl
      | cons x l => obtain ⟨ad, e, _⟩ := hl 0 x rfl; cases e
    subst this
    refine ⟨v, w, ?_, by simpa using hown, ⟨rfl, rfl, rfl, Nat.le_refl _, fun _ _ _ => rfl⟩⟩
    have hu := Tryz.underlying49
    rcases hown.2 with ⟨rfl, _⟩ | ⟨g, cap, cur, rfl, _, _, h5, _⟩
    · simp [Builtin.append_, run_underlying hu, sizeOf, typeInfo, hi, Builtin.lenOf, Builtin.firstCells]
    · simp [Builtin.append_, run_underlying hu, sizeOf, typeInfo, hi, Builtin.lenOf, Builtin.firstCells, h5, storeCells]
  | some ad =>
    obtain ⟨v', w', hr, k2, k3, _, _⟩ := run_append_own_at (P := Tryz.prog) w B 49 49 3 i0 (.int .i64 0) 1 8 Tryz.underlying49 hi hz0 hz1 hz2 rfl (by decide) v xs.length _ hown ad l.length c (l.map (Value.int .i64)) (by simp)
      (fun j u hu => by
        rw [List.getElem?_map] at hu
        obtain ⟨x, hx, rfl⟩ := Option.map_eq_some_iff.1 hu
        obtain ⟨ad', e, hc⟩ := hl j x hx
        injection e with e
        subst e
        exact hc) (fun u hu => by simp at hu; obtain ⟨a, _, rfl⟩ := hu; rfl) (by unfold maxLen; omega) (by omega) hB
    refine ⟨v', w', hr, ?_, k3⟩
    rw [List.length_append, List.map_append]
    exact k2

/-- v is the slice of a way -/
def WayV (w : World) (P : Nat → Prop) (l : List Int) (v : Value) : Prop := ∃ A c, v = .slice A l.length c ∧ CodesIn w A l ∧ (l ≠ [] → ∀ ad, A = some ad → P ad.block)
/-- s is a slice of the call's own, of ways -/
def WaysRow (B : Nat) (w : World) (s : Value) (ws : List (List Int)) : Prop := ∃ vs : List Value, w.ownsRow B 49 1 s ws.length vs ∧ ∀ (q : Nat) (l : List Int), ws[q]? = some l → ∃ v, vs[q]? = some v ∧ WayV w (fun g => B ≤ g ∧ s.ownBlock ≠ some g) l v
theorem WayV.turn {w w' : World} {P Q : Nat → Prop} {l : List Int} {v : Value} (h : WayV w P l v) (ht : ∀ g, P g → g < w.heap.size → w'.heap[g]? = w.heap[g]? ∧ Q g) : WayV w' Q l v := by
  obtain ⟨A, c, h1, h2, h3⟩ := h
  have hlt : l ≠ [] → ∀ ad, A = some ad → ad.block < w.heap.size := fun hn ad ha => by
    cases l with
    | nil => exact absurd rfl hn
    | cons x l =>
      obtain ⟨ad', e, hc⟩ := h2 0 x rfl
      rw [ha] at e; injection e with e; subst e
      have := lt_of_cell hc
      rwa [block_of_add] at this
  exact ⟨A, c, h1, h2.turn fun hn ad ha => (ht _ (h3 hn ad ha) (hlt hn ad ha)).1, fun hn ad ha => (ht _ (h3 hn ad ha) (hlt hn ad ha)).2⟩
theorem WaysRow.form {B : Nat} {w : World} {s : Value} {ws : List (List Int)} (h : WaysRow B w s ws) : ∃ A c, s = .slice A ws.length c ∧ ws.length ≤ c ∧ c ≤ 9223372036854775807 := by
  obtain ⟨vs, h1, _⟩ := h
  rcases h1.2 with ⟨rfl, hx⟩ | ⟨g, cap, cur, rfl, h3, h4, h5, h6, h7, h8⟩
  · exact ⟨none, 0, by rw [hx], by omega, by omega⟩
  · exact ⟨some ⟨g, 0, none⟩, cap, rfl, h5, by simpa [maxLen] using h6⟩
theorem WaysRow.below {B : Nat} {w w' : World} {s : Value} {ws : List (List Int)} (h : WaysRow B w s ws) (hb : Below w.heap.size w w') : WaysRow B w' s ws := by
  obtain ⟨vs, h1, h2⟩ := h
  refine ⟨vs, own_below h1 hb, fun q l hq => ?_⟩
  obtain ⟨v, h3, h4⟩ := h2 q l hq
  exact ⟨v, h3, h4.turn fun g hg hlt => ⟨hb.block g hlt, hg⟩⟩
/-- read behind a growth of another row -/
theorem WaysRow.read {B : Nat} {w w' : World} {s : Value} {ws : List (List Int)} {row : Option Nat} (h : WaysRow B w s ws) (hg : w.grownBy w' row) (hr : ∀ k, row = some k → k < B) {q : Nat} {l : List Int} (hq : ws[q]? = some l) :
    ∃ ad cap A c, s = .slice (some ad) ws.length cap ∧ w'.cell? (ad.add q) = some (.slice A l.length c) ∧ CodesIn w' A l := by
  obtain ⟨vs, h1, h2⟩ := h
  obtain ⟨v, h3, A, c, rfl, h4, h5⟩ := h2 q l hq
  have hne : ∀ g, B ≤ g → some g ≠ row := fun g hg' e => by have := hr g e.symm; omega
  rcases h1.2 with ⟨rfl, hx⟩ | ⟨g, cap, cur, rfl, k3, k4, k5, k6, k7, k8⟩
  · have := (List.getElem?_eq_some_iff.1 hq).1
    omega
  · refine ⟨⟨g, 0, none⟩, cap, A, c, rfl, ?_, h4.turn fun hn ad ha => ?_⟩
    · have hc := h1.cells (g := g) rfl q _ h3
      rw [World.cell?_of_block (w := w) (by rw [block_of_add]; exact hg.block g (by have := lt_of_cell hc; rwa [block_of_add] at this) (hne g k3))]
      exact hc
    · have hb := (h5 hn ad ha).1
      refine hg.block _ ?_ (hne _ hb)
      cases l with
      | nil => exact absurd rfl hn
      | cons x l =>
        obtain ⟨ad', e, hc⟩ := h4 0 x rfl
        rw [ha] at e; injection e with e; subst e
        have := lt_of_cell hc
        rwa [block_of_add] at this
theorem grownBy_none {w w' : World} (h : w.grownBy w' none) : Below w.heap.size w w' := ⟨h.os, h.tape, h.output, h.size, fun k hk => h.block k hk (by simp)⟩

/-- a round: out = append(out, append(append(nil, i), w...)) -/
theorem ways_step {B : Nat} {wr : World} {s : Value} {ws : List (List Int)} (hrow : WaysRow B wr s ws) (hB : B ≤ wr.heap.size) (i : Int) (l : List Int) (A : Option Addr) (c : Nat) (hl : CodesIn wr A l) (h1 : l.length ≤ 1000000) (h2 : ws.length ≤ 1000000) :
    ∃ A1 c1 w1 A2 c2 w2 s' w3, (Builtin.append_ #[49, 49] 49 #[.slice none 0 0, .slice (some ⟨wr.heap.size, 0, none⟩) 1 1]).run Tryz.prog (wr.alloc (.cells #[.int .i64 i] 3)) = .ok (.slice A1 1 c1) w1 ∧
      (Builtin.append_ #[49, 49] 49 #[.slice A1 1 c1, .slice A l.length c]).run Tryz.prog w1 = .ok (.slice A2 (l.length + 1) c2) w2 ∧
      (Builtin.append_ #[40, 40] 40 #[s, .slice (some ⟨w2.heap.size, 0, none⟩) 1 1]).run Tryz.prog (w2.alloc (.cells #[.slice A2 (l.length + 1) c2] 49)) = .ok s' w3 ∧
      WaysRow B w3 s' (ws ++ [i :: l]) ∧ wr.grownBy w3 s.ownBlock ∧ (s'.ownBlock = s.ownBlock ∨ ∃ g, s'.ownBlock = some g ∧ wr.heap.size ≤ g) := by
  have ha := (Below.refl wr.heap.size wr).alloc (Nat.le_refl _) (.cells #[.int .i64 i] 3)
  have hci : CodesIn (wr.alloc (.cells #[.int .i64 i] 3)) (some ⟨wr.heap.size, 0, none⟩) [i] := fun q x hq => by
    have hq0 : q = 0 := by
      have := (List.getElem?_eq_some_iff.1 hq).1
      simpa using this
    subst hq0
    have : i = x := by simpa using hq
    subst this
    refine ⟨_, rfl, ?_⟩
    simp [Addr.add]
  obtain ⟨v1, w1, r1, o1, g1⟩ := run_append_ints (B := wr.heap.size) (xs := []) (World.ownsRow_nil (wr.alloc (.cells #[.int .i64 i] 3)) wr.heap.size 3 1) _ 1 hci (by simp) (by simp) (by simp)
  have b1 : Below wr.heap.size wr w1 := ha.trans ((grownBy_none g1).mono (by simp))
  obtain ⟨A1, c1, rfl, _, _, _, _⟩ := own_ints o1
  obtain ⟨v2, w2, r2, o2, g2⟩ := run_append_ints (xs := [i]) o1 A c (hl.below b1) h1 (by simp) b1.size
  have hlt1 := fun k h => (o1.lt k h).1
  have b2 : Below wr.heap.size wr w2 := b1.grown g2 b1.size (fun k hk => hlt1 k hk)
  obtain ⟨A2, c2, rfl, e1, e2, _, _⟩ := own_ints o2
  have b3 : Below wr.heap.size wr (w2.alloc (.cells #[.slice A2 (l.length + 1) c2] 49)) := b2.alloc b2.size _
  have e3 : CodesIn (w2.alloc (.cells #[.slice A2 (l.length + 1) c2] 49)) A2 (i :: l) := (show CodesIn w2 A2 (i :: l) from e1).below ((Below.refl _ _).alloc (Nat.le_refl _) _)
  obtain ⟨vs, k1, k2⟩ := hrow.below b3
  obtain ⟨i0, hi, hz0, hz1, hz2⟩ := info_parts infoInts
  have hvl : vs.length = ws.length := by have := k1.1; simpa using this
  obtain ⟨s', w3, r3, o3, g3, _, at3⟩ := run_append_own_at (P := Tryz.prog) (w2.alloc (.cells #[.slice A2 (l.length + 1) c2] 49)) B 40 40 49 i0 (.slice none 0 0) 1 24 Tryz.underlying40 hi hz0 hz1 hz2 rfl (by decide) s ws.length vs k1 ⟨w2.heap.size, 0, none⟩ 1 1 [.slice A2 (l.length + 1) c2] (by simp)
    (fun j u hj => by
      have hj0 : j = 0 := by have := (List.getElem?_eq_some_iff.1 hj).1; simpa using this
      subst hj0
      have : Value.slice A2 (l.length + 1) c2 = u := by simpa using hj
      subst this
      simp [Addr.add])
    (fun u hu => by have : u = .slice A2 (l.length + 1) c2 := by simpa using hu
                    subst this; rfl) (by unfold maxLen; omega) (by omega) (Nat.le_trans hB b3.size)
  have hsl : ∀ k, s.ownBlock = some k → k < wr.heap.size := fun k hk => by obtain ⟨vs0, q1, _⟩ := hrow; exact (q1.lt k hk).2
  have at3' : s'.ownBlock = s.ownBlock ∨ ∃ g, s'.ownBlock = some g ∧ wr.heap.size ≤ g := by
    rcases at3 with h | h
    · exact .inl h
    · exact .inr ⟨_, h, b3.size⟩
  have hcond : ∀ g, g < (w2.alloc (.cells #[.slice A2 (l.length + 1) c2] 49)).heap.size → s.ownBlock ≠ some g → s'.ownBlock ≠ some g := fun g hg hne => by
    rcases at3 with h | h
    · rw [h]; exact hne
    · rw [h]; intro e; injection e with e; omega
  refine ⟨A1, c1, w1, A2, c2, w2, s', w3, r1, r2, r3, ⟨vs ++ [.slice A2 (l.length + 1) c2], by rw [List.length_append]; exact o3, fun q l' hq => ?_⟩, ?_, at3'⟩
  · by_cases hql : q < ws.length
    · rw [List.getElem?_append_left hql] at hq
      obtain ⟨v, m1, m2⟩ := k2 q l' hq
      refine ⟨v, by rw [List.getElem?_append_left (by omega)]; exact m1, m2.turn fun g hg hlt => ⟨g3.block g hlt (Ne.symm hg.2), hg.1, hcond g hlt hg.2⟩⟩
    · have hq0 : q = ws.length := by
        have := (List.getElem?_eq_some_iff.1 hq).1
        simp at this; omega
      subst hq0
      have : i :: l = l' := by simpa using hq
      subst this
      refine ⟨.slice A2 (l.length + 1) c2, by rw [List.getElem?_append_right (by omega)]; simp [hvl], ?_⟩
      have hw : WayV (w2.alloc (.cells #[.slice A2 (l.length + 1) c2] 49)) (fun g => wr.heap.size ≤ g) (i :: l) (.slice A2 (l.length + 1) c2) := ⟨A2, c2, rfl, e3, fun _ ad ha => e2 ad ha⟩
      refine hw.turn fun g hg hlt => ?_
      have hne : s.ownBlock ≠ some g := fun e => by have := hsl g e; omega
      exact ⟨g3.block g hlt (Ne.symm hne), Nat.le_trans hB hg, hcond g hlt hne⟩
  · exact ⟨g3.os.trans b3.os, g3.tape.trans b3.tape, g3.output.trans b3.output, Nat.le_trans b3.size g3.size, fun k hk hne => (g3.block k (Nat.lt_of_lt_of_le hk b3.size) hne).trans (b3.block k hk)⟩
end Go.Proofs.YtbhmeapnmpgggaaGreatDoor
/- conduitref35.Walk: the walk. Conditions: the error lies in the world and is not great. -/
namespace Go.Proofs.YtbhmeapnmpgggaaGreatDoor
open Go.RowKit

def WaysG (ws : List (List Int)) (w : World) (en : Ending) (w' : World) : Prop := ∃ s, en = .returned s ∧ WaysRow w.heap.size w' s ws ∧ Below w.heap.size w w'
theorem WaysRow.mono {B B' : Nat} (h : B' ≤ B) {w : World} {s : Value} {ws : List (List Int)} (hr : WaysRow B w s ws) : WaysRow B' w s ws := by
  obtain ⟨vs, h1, h2⟩ := hr
  refine ⟨vs, ⟨h1.1, ?_⟩, fun q l hq => ?_⟩
  · rcases h1.2 with h3 | ⟨g, cap, cur, h4, h5, h6⟩
    · exact .inl h3
    · exact .inr ⟨g, cap, cur, h4, Nat.le_trans h h5, h6⟩
  · obtain ⟨v, h3, A, c, h4, h5, h6⟩ := h2 q l hq
    exact ⟨v, h3, A, c, h4, h5, fun hn ad ha => ⟨Nat.le_trans h (h6 hn ad ha).1, (h6 hn ad ha).2⟩⟩
/-- the first way, to the error itself -/
theorem WaysRow.one (w : World) (B : Nat) (hB : B ≤ w.heap.size) : WaysRow B (w.alloc (.cells #[.slice none 0 0] 49)) (.slice (some ⟨w.heap.size, 0, none⟩) 1 1) [[]] := by
  refine ⟨[.slice none 0 0], ⟨rfl, .inr ⟨w.heap.size, 1, #[.slice none 0 0], rfl, hB, Blk.new _ _ _, Nat.le_refl _, by unfold maxLen; omega, rfl, rfl⟩⟩, fun q l hq => ?_⟩
  have hq0 : q = 0 := by have := (List.getElem?_eq_some_iff.1 hq).1; simpa using this
  subst hq0
  have : [] = l := by simpa using hq
  subst this
  exact ⟨.slice none 0 0, rfl, none, 0, rfl, (fun q x h => by simp at h), fun h => absurd rfl h⟩
/-- what holds at the head of the outer rounds -/
structure WOut (w : World) (e : E) (j : Nat) (s : Value) (wr : World) : Prop where
  below : Below w.heap.size w wr
  big : w.heap.size + 1 ≤ wr.heap.size
  b0 : Blk wr w.heap.size 29 e.cs.toArray
  row : WaysRow (w.heap.size + 1) wr s ([] :: E.waysL 0 (e.l.take j))
/-- what holds at the head of the inner rounds -/
structure WIn (w Wc : World) (s0 : Value) (ws0 wsc : List (List Int)) (j q : Nat) (s : Value) (wr : World) : Prop where
  grown : Wc.grownBy wr s0.ownBlock
  row : WaysRow (w.heap.size + 1) wr s (ws0 ++ (wsc.take q).map ((j : Int) :: ·))
  own : s.ownBlock = s0.ownBlock ∨ ∃ g, s.ownBlock = some g ∧ Wc.heap.size ≤ g
theorem WIn.next {w Wc : World} {s0 : Value} {ws0 wsc : List (List Int)} {j q : Nat} {s s' : Value} {wr w3 : World} {l : List Int} (h : WIn w Wc s0 ws0 wsc j q s wr) (hq : wsc[q]? = some l)
    (h1 : WaysRow (w.heap.size + 1) w3 s' ((ws0 ++ (wsc.take q).map ((j : Int) :: ·)) ++ [(j : Int) :: l])) (h2 : wr.grownBy w3 s.ownBlock) (h3 : s'.ownBlock = s.ownBlock ∨ ∃ g, s'.ownBlock = some g ∧ wr.heap.size ≤ g) : WIn w Wc s0 ws0 wsc j (q + 1) s' w3 := by
  obtain ⟨hj, rfl⟩ := List.getElem?_eq_some_iff.1 hq
  refine ⟨⟨h2.os.trans h.grown.os, h2.tape.trans h.grown.tape, h2.output.trans h.grown.output, Nat.le_trans h.grown.size h2.size, fun k hk hne => ?_⟩, ?_, ?_⟩
  · refine (h2.block k (Nat.lt_of_lt_of_le hk h.grown.size) ?_).trans (h.grown.block k hk hne)
    rcases h.own with a | ⟨g, a, b⟩
    · rw [a]; exact hne
    · rw [a]; intro e; injection e with e; omega
  · rw [List.take_succ_eq_append_getElem hj, List.map_append, ← List.append_assoc]
    exact h1
  · rcases h3 with a | ⟨g, a, b⟩
    · rw [a]; exact h.own
    · exact .inr ⟨g, a, Nat.le_trans h.grown.size b⟩

theorem WOut.next {w wo Wc wr : World} {e : E} {j : Nat} {s s' : Value} {wsc : List (List Int)} (h : WOut w e j s wo) (hb : Below wo.heap.size wo Wc) (hI : WIn w Wc s ([] :: E.waysL 0 (e.l.take j)) wsc j wsc.length s' wr)
    (hst : E.waysL 0 (e.l.take (j + 1)) = E.waysL 0 (e.l.take j) ++ wsc.map (((0 + j : Nat) : Int) :: ·)) : WOut w e (j + 1) s' wr := by
  have hsb : ∀ k, s.ownBlock = some k → w.heap.size + 1 ≤ k ∧ k < wo.heap.size := fun k hk => by obtain ⟨vs0, q1, _⟩ := h.row; exact q1.lt k hk
  have hbw : Below w.heap.size w Wc := h.below.trans (hb.mono h.below.size)
  have hne : some w.heap.size ≠ s.ownBlock := fun e => by have := (hsb _ e.symm).1; omega
  refine ⟨hbw.grown hI.grown hbw.size (fun k hk => by have := (hsb k hk).1; omega), Nat.le_trans h.big (Nat.le_trans hb.size hI.grown.size), ?_, ?_⟩
  · exact (hI.grown.block _ (h.b0.to hb).lt hne).trans (h.b0.to hb)
  · rw [hst, Nat.zero_add]
    have := hI.row
    rw [List.take_length] at this
    exact this

set_option maxHeartbeats 2000000 in
set_option maxRecDepth 100000 in
theorem walkR_step (n : Nat) (e : E) (w : World) (hn : E.sizeL e.l ≤ n) (hs : e.size ≤ 1000000) (he : e.In w)
    (ih : ∀ (x : E) (w : World), x.size ≤ n → x.size ≤ 1000000 → x.In w → Calls Tryz.prog 22 #[x.v] w (WaysG x.ways w)) :
    Calls Tryz.prog 22 #[e.v] w (WaysG e.ways w) := by
  have hrg := he.rng
  have hwl := E.ways_len e
  have HE : Hid (∀ q x, e.l[q]? = some x → (∃ ad, e.A = some ad ∧ At w (ad.add (q * 11)) x.cs) ∧ (x.size ≤ n ∧ x.size ≤ 1000000 ∧ x.In w)) := Lib.hid fun q x h =>
    ⟨(he.at_ h).1, Nat.le_trans (E.sizeL_le h) hn, by have := E.sizeL_le h; have := e.size_eq; omega, (he.at_ h).2⟩
  have hlen : e.l.length ≤ 1000000 := by
    have : ∀ l : List E, l.length ≤ E.sizeL l := by
      intro l
      induction l with
      | nil => exact Nat.le_refl _
      | cons x l ih => have := x.size_eq; rw [List.length_cons, E.sizeL]; omega
    have := this e.l
    have := e.size_eq
    omega
  have hcap : e.l.length ≤ e.c ∧ e.c ≤ 9223372036854775807 := ⟨hrg.2.2.2.2.2.2.2.1, hrg.2.2.2.2.2.2.2.2.1⟩
  obtain ⟨hc1, hc2⟩ := hcap
  by_cases hk : e.k = 0
  · have hw0 : e.ways = [] := by
      obtain ⟨k, id, code, t, body, cA, cc, codes, A, c, l⟩ := e
      have hk : k = 0 := hk
      rw [E.ways, if_pos hk]
    have HP : Hid (∀ w', Below w.heap.size w w' → WaysG e.ways w (.returned (.slice none 0 0)) w') := Lib.hid fun w' h => by
      rw [hw0]
      exact ⟨_, rfl, ⟨[], World.ownsRow_nil _ _ _ _, fun q l h => by simp at h⟩, h⟩
    have hkb : (e.k == 0) = true := by simpa using hk
    clear hk hw0 HE hwl ih hn hs he hrg
    generalize WaysG e.ways w = R at *
    simp only [E.v, E.cs]
    go_enter Tryz.func22, Tryz.ntmps22
    go_wp2_with fail
    exact HP.out _ ((Below.refl _ _).alloc (Nat.le_refl _) _)
  · have hkb : (e.k == 0) = false := by simpa using hk
    have Hw := Lib.hid (E.ways_eq e hk)
    have HP : Hid (∀ s w', WaysRow (w.heap.size + 1) w' s ([] :: E.waysL 0 e.l) → Below w.heap.size w w' → WaysG e.ways w (.returned s) w') := Lib.hid fun s w' h1 h2 => by
      rw [Hw.out]
      exact ⟨s, rfl, h1.mono (by omega), h2⟩
    have hsz : ∀ j, (E.waysL 0 (e.l.take j)).length ≤ 999999 := fun j => by
      have h1 := E.waysL_len 0 (e.l.take j)
      have h2 : E.sizeL (e.l.take j) ≤ E.sizeL e.l := by
        have : ∀ (l : List E) (j : Nat), E.sizeL (l.take j) ≤ E.sizeL l := by
          intro l
          induction l with
          | nil => intro j; simp
          | cons x l ih =>
            intro j
            cases j with
            | zero => simp [E.sizeL]
            | succ j => have := ih j; rw [List.take_succ_cons, E.sizeL, E.sizeL]; omega
        exact this _ _
      have := e.size_eq
      omega
    have Hsz := Lib.hid hsz
    have hW : ∀ W, W = (w.alloc (.cells e.cs.toArray 29)).alloc (.cells #[.slice none 0 0] 49) → WOut w e 0 (.slice (some ⟨w.heap.size + 1, 0, none⟩) 1 1) W := fun W h => by
      subst h
      have h1 := WaysRow.one (w.alloc (.cells e.cs.toArray 29)) (w.heap.size + 1) (by simp)
      have hz : (w.alloc (.cells e.cs.toArray 29)).heap.size = w.heap.size + 1 := by simp
      rw [hz] at h1
      exact ⟨two_alloc _ _ _, by simp, (Blk.new _ _ _).alloc _, h1⟩
    have HW := Lib.hid hW
    have HX : Hid (∀ (j : Nat) (s : Value) (wr : World), WOut w e j s wr → Blk wr w.heap.size 29 e.cs.toArray) := Lib.hid fun j s wr h => h.b0
    clear hk hwl hn hs he hrg hsz hW
    generalize WaysG e.ways w = R at *
    simp only [E.cs] at HW HX
    simp only [E.v, E.cs]
    go_enter Tryz.func22, Tryz.ntmps22
    go_wp2_with fail
    have HW0 := Lib.hid (HW.out _ rfl)
    clear HW
    go_loopg [3, 15] e.l.length (fun gk s i wr => ∃ j : Nat, i = .int .i64 j ∧ j + gk = e.l.length ∧ Hid (WOut w e j s wr))
    case atStart => exact ⟨0, rfl, by omega, HW0⟩
    case round =>
      clear HW0
      obtain ⟨j, rfl, hj, hO⟩ := hrel
      obtain ⟨s, rfl⟩ : ∃ s, s = u3 := ⟨_, rfl⟩
      obtain ⟨go, rfl⟩ : ∃ go, go = gk := ⟨_, rfl⟩
      by_cases hlt : j < e.l.length
      · obtain ⟨x, ex⟩ : ∃ x, e.l[j]? = some x := ⟨_, List.getElem?_eq_getElem hlt⟩
        obtain ⟨⟨ad, hA, h1⟩, hx⟩ := HE.out j x ex
        have c10 := (HX.out j s wr hO).cell 10
        simp [hA] at c10
        obtain ⟨p0, p1, p2, p3, p4, p5, p6, p7, p8, p9, p10⟩ := (h1.below hO.out.below).eleven
        have Hc := Lib.hid (ih x wr hx.1 hx.2.1 (hx.2.2.below hO.out.below))
        have Hst := Lib.hid (E.waysL_take e.l 0 j x ex)
        have Hxl := Lib.hid (And.intro (E.ways_len x) (And.intro (E.ways_le x) hx.2.1))
        have HO := Lib.hid hO.out
        simp only [E.v, E.cs] at Hc
        unfold WaysG at Hc
        clear h1 hx ex hO hA
        generalize x.ways = wsc at *
        go_wp2_with fail
        refine Hc.out.mono ?_
        rintro en Wc ⟨sc, rfl, hrc, hbc⟩
        have HC := Lib.hid (And.intro hrc hbc)
        obtain ⟨Ac, cc, rfl, hcl, hcm⟩ := hrc.form
        clear p0 p1 p2 p3 p4 p5 p6 p7 p8 p9 p10 c10 Hc hrc hbc
        obtain ⟨wo, rfl⟩ : ∃ wo, wo = wr := ⟨_, rfl⟩
        have hwsl : wsc.length ≤ 1000000 := by have := Hxl.out.1; have := Hxl.out.2.2; omega
        go_wp2_with fail
        go_loopg [3, 25] wsc.length (fun gq s' i' wr => ∃ q : Nat, i' = .int .i64 q ∧ q + gq = wsc.length ∧ Hid (WIn w Wc s ([] :: E.waysL 0 (e.l.take j)) wsc j q s' wr))
        case atStart => exact ⟨0, rfl, by omega, ⟨rfl, rfl, rfl, Nat.le_refl _, fun _ _ _ => rfl⟩, by simpa using HO.out.row.below HC.out.2, .inl rfl⟩
        case round =>
          obtain ⟨q, rfl, hq, hI⟩ := hrel
          by_cases hqlt : q < wsc.length
          · obtain ⟨lw, elw⟩ : ∃ lw, wsc[q]? = some lw := ⟨_, List.getElem?_eq_getElem hqlt⟩
            have hsb : ∀ k, s.ownBlock = some k → k < wo.heap.size := fun k hk => by obtain ⟨vs0, q1, _⟩ := HO.out.row; exact (q1.lt k hk).2
            obtain ⟨gad, gcap, Aw, cw, hform, hcell, hcod⟩ := HC.out.1.read hI.out.grown hsb elw
            have hBo : w.heap.size + 1 ≤ wr.heap.size := Nat.le_trans HO.out.big (Nat.le_trans HC.out.2.size hI.out.grown.size)
            have hws0 : (([] :: E.waysL 0 (e.l.take j)) ++ (wsc.take q).map ((j : Int) :: ·)).length ≤ 1000000 := by
              have h1 := Hsz.out (j + 1)
              rw [Hst.out, List.length_append, List.length_map] at h1
              have h2 := List.length_take_le q wsc
              rw [List.length_append, List.length_cons, List.length_map]
              have h3 : (wsc.take q).length ≤ wsc.length := by rw [List.length_take]; omega
              omega
            have hlw : lw.length ≤ 1000000 := by
              have := Hxl.out.2.1 lw (List.mem_of_getElem? elw)
              have := Hxl.out.2.2
              omega
            obtain ⟨A1, c1, w1, A2, c2, w2, s', w3, r1, r2, r3, m1, m2, m3⟩ := ways_step hI.out.row hBo j lw Aw cw hcod hlw hws0
            have R1 := Lib.hid r1
            have R2 := Lib.hid r2
            have R3 := Lib.hid r3
            have HN : Hid (WIn w Wc s ([] :: E.waysL 0 (e.l.take j)) wsc j (q + 1) s' w3) := hI.out.next elw m1 m2 m3
            obtain ⟨As, cs, hus, hus1, hus2⟩ := hI.out.row.form
            have hfe : Ac = some gad := by injection hform
            subst hfe
            generalize (([] :: E.waysL 0 (e.l.take j)) ++ (wsc.take q).map ((j : Int) :: ·)).length = NN at hus hus1 hus2 hws0
            have HU := Lib.hid (And.intro hus1 hus2)
            clear hform hus1 hus2 hws0
            clear r1 r2 r3 m1 m2 m3 hI hcod elw hBo hsb hlw
            subst hus
            go_upto_region 12 with (at_builtin; refine wpList_append_run rfl _ _ 49 rfl _ _ _ rfl rfl R1.out ?_)
            go_wp2_with (first
              | (at_builtin; refine wpList_append_run rfl _ _ 49 rfl _ _ _ rfl rfl R2.out ?_)
              | (at_builtin; refine wpList_append_run rfl _ _ 40 rfl _ _ _ rfl rfl R3.out ?_))
            go_roundg (gk - 1)
            case measure => omega
            case rel => exact ⟨q + 1, by go_num, by omega, HN⟩
          · obtain rfl : q = wsc.length := by omega
            have HN : Hid (WOut w e (j + 1) u3 wr) := WOut.next HO.out HC.out.2 hI.out Hst.out
            clear hI HO HC Hst Hxl
            go_wp2_with fail
            go_roundg (go - 1)
            case measure => omega
            case rel => exact ⟨j + 1, by go_num, by omega, HN⟩
      · obtain rfl : j = e.l.length := by omega
        have HF := Lib.hid (HP.out s wr (by have := hO.out.row; rwa [List.take_length] at this) hO.out.below)
        clear hO HP HX HE
        go_wp2_with fail
        exact HF
theorem walkR_any (n : Nat) : ∀ (e : E) (w : World), e.size ≤ n → e.size ≤ 1000000 → e.In w → Calls Tryz.prog 22 #[e.v] w (WaysG e.ways w) := by
  induction n with
  | zero => intro e w h; have := e.size_eq; omega
  | succ n ih => exact fun e w h1 h2 h3 => walkR_step n e w (by have := e.size_eq; omega) h2 h3 ih
end Go.Proofs.YtbhmeapnmpgggaaGreatDoor
