/- errs.walk: what it does with a tree, in plain words; what its callee must keep. No condition. -/
import Derived.Test.YtbhmeapnmpgggaaGreatDoorUnwrapM
import Derived.Test.YtbhmeapnmpgggaaGreatDoorCan
import Derived.Test.YtbhmeapnmpgggaaGreatDoorPlainE
import Derived.Deep.RegionLawGrows
import Derived.Deep.RegionHeld2
namespace Go.Proofs.YtbhmeapnmpgggaaGreatDoor
open Go.RowKit

section
variable {S : Type}
mutual
/-- the state behind a walk, and how it ends: 0 gone through, 1 told to stop, 2 panicked -/
def E.walk (st : S → E → List Int → S × Nat) : E → List Int → S → S × Nat
  | .mk k id code t body cA cc codes A c l, way, s => if k = 0 then (s, 0) else
    if (st s (E.mk k id code t body cA cc codes A c l) way).2 = 0 then E.walkL st l 0 way (st s (E.mk k id code t body cA cc codes A c l) way).1 else st s (E.mk k id code t body cA cc codes A c l) way
def E.walkL (st : S → E → List Int → S × Nat) : List E → Nat → List Int → S → S × Nat
  | [], _, _, s => (s, 0)
  | x :: l, j, way, s => if (x.walk st (way ++ [(j : Int)]) s).2 = 0 then E.walkL st l (j + 1) way (x.walk st (way ++ [(j : Int)]) s).1 else x.walk st (way ++ [(j : Int)]) s
end
end
def walkEnd (bad : Ending) : Nat → Ending
  | 0 => .returned (.bool true)
  | 1 => .returned (.bool false)
  | _ => bad
/-- a way lies in the world, in a block from B on -/
def Way (B : Nat) (w : World) (ao : Option Addr) (c : Nat) (way : List Int) : Prop :=
  way.length ≤ c ∧ c ≤ 9223372036854775807 ∧ way.length ≤ 4096 ∧ (ao = none → way = [] ∧ c = 0) ∧ (∀ ad, ao = some ad → B ≤ ad.block) ∧ CodesIn w ao way
theorem Way.turn {B : Nat} {w w' : World} {ao : Option Addr} {c : Nat} {way : List Int} (h : Way B w ao c way) (ht : ∀ a v, B ≤ a.block → w.cell? a = some v → w'.cell? a = some v) : Way B w' ao c way :=
  ⟨h.1, h.2.1, h.2.2.1, h.2.2.2.1, h.2.2.2.2.1, fun q x hq => by
    obtain ⟨ad, e, hc⟩ := h.2.2.2.2.2 q x hq
    exact ⟨ad, e, ht _ _ (by rw [block_of_add]; exact h.2.2.2.2.1 ad e) hc⟩⟩
theorem Way.below {B : Nat} {w w' : World} {ao : Option Addr} {c : Nat} {way : List Int} (h : Way B w ao c way) (hb : Below w.heap.size w w') : Way B w' ao c way :=
  h.turn fun _ _ _ hc => (hb.cell (lt_of_cell hc)).trans hc
theorem Kept.cell {bs : List Nat} {w w' : World} (hb : Kept bs w w') {a : Addr} {v : Value} (hn : a.block ∉ bs) (hc : w.cell? a = some v) : w'.cell? a = some v := by
  have := hb.block a.block (lt_of_cell hc) hn
  unfold World.cell? at hc ⊢
  rw [this]
  exact hc
theorem Way.kept {B : Nat} {bs : List Nat} {w w' : World} {ao : Option Addr} {c : Nat} {way : List Int} (h : Way B w ao c way) (hb : Kept bs w w') (hs : ∀ k ∈ bs, k < B) : Way B w' ao c way :=
  h.turn fun a _ ha hc => hb.cell (fun hm => by have := hs _ hm; omega) hc
theorem Way.clip {B : Nat} {w : World} {ao : Option Addr} {c : Nat} {way : List Int} (h : Way B w ao c way) : Way B w ao way.length way :=
  ⟨Nat.le_refl _, by have := h.2.2.1; omega, h.2.2.1, fun e => ⟨(h.2.2.2.1 e).1, by rw [(h.2.2.2.1 e).1]; rfl⟩, h.2.2.2.2⟩

/-- the block that an error value points to -/
def ptrBlock : Value → Option Nat
  | .pointer (some a) => some a.block
  | _ => none
def evBlock : Value → Option Nat
  | .iface _ (.agg cs) => cs[0]?.bind ptrBlock
  | .iface _ v => ptrBlock v
  | _ => none
/-- v is the error value of e; its block is none of the list's -/
def EVn (bs : List Nat) (w : World) (e : E) (v : Value) : Prop := EV 0 w e v ∧ ∀ g, evBlock v = some g → g ∉ bs
theorem EVn.of {B : Nat} {bs : List Nat} {w : World} {e : E} {v : Value} (hv : EV B w e v) (hs : ∀ k ∈ bs, k < B) : EVn bs w e v := by
  refine ⟨hv.mono (Nat.zero_le _), fun g hg hm => ?_⟩
  have hlt := hs g hm
  unfold EV at hv
  rcases hv with ⟨a, rfl⟩ | ⟨a, g', b, rfl, d⟩ | ⟨a, g', b, rfl, d⟩ | ⟨a, g', b, rfl, d⟩ | ⟨a, g', b, rfl, d⟩ | ⟨a, rfl⟩ | ⟨a, rfl⟩ | ⟨a, g', b, rfl, d⟩ | ⟨a, g', b, rfl, d⟩ | ⟨a, rfl⟩ | ⟨a, rfl⟩ <;> simp [evBlock, ptrBlock] at hg <;> omega
theorem EVn.below {bs : List Nat} {w w' : World} {e : E} {v : Value} (hv : EVn bs w e v) (hb : Below w.heap.size w w') : EVn bs w' e v := ⟨hv.1.below hb, hv.2⟩
theorem EVn.kept {bs : List Nat} {w w' : World} {e : E} {v : Value} (hv : EVn bs w e v) (hb : Kept bs w w') : EVn bs w' e v := by
  refine ⟨?_, hv.2⟩
  obtain ⟨hv, h2⟩ := hv
  unfold EV at hv ⊢
  rcases hv with ⟨a, rfl⟩ | ⟨a, g', b, rfl, d⟩ | ⟨a, g', b, rfl, d⟩ | ⟨a, g', b, rfl, d⟩ | ⟨a, g', b, rfl, d⟩ | ⟨a, rfl⟩ | ⟨a, rfl⟩ | ⟨a, g', b, rfl, d⟩ | ⟨a, g', b, rfl, d⟩ | ⟨a, rfl⟩ | ⟨a, rfl⟩
  · exact .inl ⟨a, rfl⟩
  · exact .inr (.inl ⟨a, g', b, rfl, d.kept hb (h2 g' rfl)⟩)
  · exact .inr (.inr (.inl ⟨a, g', b, rfl, d.kept hb (h2 g' rfl)⟩))
  · exact .inr (.inr (.inr (.inl ⟨a, g', b, rfl, d.kept hb (h2 g' rfl)⟩)))
  · exact .inr (.inr (.inr (.inr (.inl ⟨a, g', b, rfl, d.kept hb (h2 g' rfl)⟩))))
  · exact .inr (.inr (.inr (.inr (.inr (.inl ⟨a, rfl⟩)))))
  · exact .inr (.inr (.inr (.inr (.inr (.inr (.inl ⟨a, rfl⟩))))))
  · exact .inr (.inr (.inr (.inr (.inr (.inr (.inr (.inl ⟨a, g', b, rfl, d.kept hb (h2 g' rfl)⟩)))))))
  · exact .inr (.inr (.inr (.inr (.inr (.inr (.inr (.inr (.inl ⟨a, g', b, rfl, d.kept hb (h2 g' rfl)⟩))))))))
  · exact .inr (.inr (.inr (.inr (.inr (.inr (.inr (.inr (.inr (.inl ⟨a, rfl⟩)))))))))
  · exact .inr (.inr (.inr (.inr (.inr (.inr (.inr (.inr (.inr (.inr ⟨a, rfl⟩)))))))))

/-- what a walk is given: the trees lie below B, the callee's own blocks from B on and below B2; all else that the walk makes lies from B2 on -/
structure Doer {S : Type} (st : S → E → List Int → S × Nat) (P : S → World → Prop) (bs : List Nat) (B B2 F : Nat) (caps : Array Value) (chain : List PanicEntry) : Prop where
  hbs : ∀ k ∈ bs, B ≤ k ∧ k < B2
  hB : B ≤ B2
  stays : ∀ s w w', P s w → Below w.heap.size w w' → P s w'
  enters : ∀ args w, (callFunc F args).run Tryz.prog w = .ok (.enter F args) w
  does : ∀ s e way v ao c w, P s w → e.In w → e.Lo B → e.right = true → e.k ≠ 0 → EVn bs w e v → Way B2 w ao c way → B2 ≤ w.heap.size →
    Calls Tryz.prog F (#[v, .slice ao way.length c] ++ caps) w (fun en w' => Kept bs w w' ∧ en = walkEnd (.panicked chain) (st s e way).2 ∧ P (st s e way).1 w')
/-- how it goes: of the tree e, from state s on, by the way 'way' -/
def Goes {S : Type} (_st : S → E → List Int → S × Nat) (P : S → World → Prop) (bs : List Nat) (chain : List PanicEntry) (w : World) (r : S × Nat) (en : Ending) (w' : World) : Prop := Kept bs w w' ∧ en = walkEnd (.panicked chain) r.2 ∧ P r.1 w'
end Go.Proofs.YtbhmeapnmpgggaaGreatDoor
/- slices.Clip of ints; the closure 'next' of errs.walk: the walks. -/
namespace Go.Proofs.YtbhmeapnmpgggaaGreatDoor
open Go.RowKit

set_option maxHeartbeats 2000000 in
set_option maxRecDepth 100000 in
theorem clip_any (ao : Option Addr) (n c : Nat) (w : World) (hn : n ≤ c) (_hc : c ≤ 9223372036854775807) (_h0 : ao = none → n = 0 ∧ c = 0) :
    Calls Tryz.prog 93 #[.slice ao n c] w fun e w' => e = .returned (.slice ao n n) ∧ w' = w := by
  go_enter Tryz.func93, Tryz.ntmps93
  go_wp2_with fail
  all_goals go_ret
  all_goals exact ⟨rfl, rfl⟩

theorem infoInt : (Tryz.prog.info? 3).map (fun i => (i.zero, i.size, i.bytes)) = some (some (.int .i64 0), 1, 8) := by kernel_rfl

theorem way_grown {B2 n : Nat} {w W w1 : World} {way : List Int} {k : Nat} {v' : Value} (hn : n = way.length) (hbW : Below w.heap.size w W) (hB : B2 ≤ w.heap.size) (hlen : way.length + 1 ≤ 4096)
    (hown : w1.ownsRow W.heap.size 3 1 v' (n + 1) (way.map (.int .i64) ++ [.int .i64 k])) (hg : W.grownBy w1 none) :
    ∃ g cap, v' = .slice (some ⟨g, 0, none⟩) (way.length + 1) cap ∧ Way B2 w1 (some ⟨g, 0, none⟩) cap (way ++ [(k : Int)]) ∧ Below w.heap.size w w1 := by
  subst hn
  have hb := hbW.grown hg hbW.size (by simp)
  rcases hown.2 with ⟨_, h0⟩ | ⟨g, cap, cur, rfl, h3, h4, h5, h6, h7, h8⟩
  · omega
  · refine ⟨g, cap, rfl, ⟨by simpa using h5, by unfold maxLen at h6; omega, by simp; omega, by simp, ?_, ?_⟩, hb⟩
    · intro ad e
      cases e
      exact Nat.le_trans hB (Nat.le_trans hbW.size h3)
    · intro q x hq
      refine ⟨_, rfl, ?_⟩
      have := hown.cells (g := g) rfl q (.int .i64 x) (by
        have : (way.map (Value.int .i64) ++ [Value.int .i64 (k : Int)])[q]? = ((way ++ [(k : Int)]).map (Value.int .i64))[q]? := by simp
        rw [this, List.getElem?_map, hq]
        rfl)
      exact this

set_option maxHeartbeats 4000000 in
set_option maxRecDepth 100000 in
theorem next_any {S : Type} {st : S → E → List Int → S × Nat} {P : S → World → Prop} {bs : List Nat} {B2 F : Nat} {caps : Array Value} {chain : List PanicEntry} (hP : ∀ s w w', P s w → Below w.heap.size w w' → P s w')
    (hbs : ∀ k ∈ bs, k < B2) (x : E) (k : Nat) (ao : Option Addr) (c : Nat) (way : List Int) (s : S) (v : Value) (gw gd : Nat) (w : World)
    (hx : x.In w) (hs : P s w) (hv : EVn bs w x v) (hway : Way B2 w ao c way) (hlen : way.length + 1 ≤ 4096) (hB : B2 ≤ w.heap.size) (hgw : B2 ≤ gw) (hgd : B2 ≤ gd)
    (bw : Blk w gw 49 #[.slice ao way.length c]) (bd : Blk w gd 78 #[.func (.func F) #[] caps])
    (ih : ∀ ao' c' w', P s w' → x.In w' → EVn bs w' x v → Way B2 w' ao' c' (way ++ [(k : Int)]) → B2 ≤ w'.heap.size →
      Calls Tryz.prog 56 #[v, .slice ao' (way.length + 1) c', .func (.func F) #[] caps] w' (Goes st P bs chain w' (x.walk st (way ++ [(k : Int)]) s))) :
    Calls Tryz.prog 92 #[.int .i64 k, v, .pointer (some ⟨gw, 0, none⟩), .pointer (some ⟨gd, 0, none⟩)] w (Goes st P bs chain w (x.walk st (way ++ [(k : Int)]) s)) := by
  have hkeep : ∀ w', Below w.heap.size w w' → (P s w' ∧ x.In w' ∧ EVn bs w' x v ∧ B2 ≤ w'.heap.size) := fun w' hb =>
    ⟨hP _ _ _ hs hb, hx.below hb, hv.below hb, Nat.le_trans hB hb.size⟩
  have hold : ∀ W, Below w.heap.size w W → ∀ b, ao = some b → ∀ j u, (way.map (Value.int .i64))[j]? = some u → W.cell? (b.add j) = some u := by
    intro W hb b e j u hu
    rw [List.getElem?_map] at hu
    obtain ⟨y, hy, rfl⟩ := Option.map_eq_some_iff.1 hu
    obtain ⟨ad, e', hc⟩ := hway.2.2.2.2.2 j y hy
    rw [e] at e'; injection e' with e'; subst e'
    exact (hb.cell (lt_of_cell hc)).trans hc
  obtain ⟨i0, hi, hz0, hz1, hz2⟩ := info_parts infoInt
  have cw := bw.cell 0
  have cd := bd.cell 0
  simp at cw cd
  have lw := bw.lt
  have ld := bd.lt
  clear bw bd
  have hcl := Lib.hid (fun w => clip_any ao way.length c w hway.1 hway.2.1 (fun e => ⟨by rw [(hway.2.2.2.1 e).1]; rfl, (hway.2.2.2.1 e).2⟩))
  have hK := Lib.hid hkeep
  have hnone : ao = none → way.length = 0 ∧ way.length = 0 := fun e => by rw [(hway.2.2.2.1 e).1]; exact ⟨rfl, rfl⟩
  have Hn := Lib.hid hnone
  have Hih := Lib.hid ih
  have Hold := Lib.hid hold
  have Hbs := Lib.hid hbs
  have HQ : ∀ r w1 e w', Below w.heap.size w w1 → Goes st P bs chain w1 r e w' → Goes st P bs chain w r e w' := fun r w1 e w' hb h => ⟨(Kept.of_below hb _).trans h.1, h.2⟩
  have Hq := Lib.hid HQ
  clear ih hnone hkeep hx hs hv hway hP hold hbs HQ
  have hal := Lib.hid ((Below.refl w.heap.size w).alloc (Nat.le_refl _) (.cells #[.int .i64 k] 3)).drew
  generalize x.walk st (way ++ [(k : Int)]) s = r at *
  obtain ⟨s', n⟩ := r
  rcases n with _ | _ | n
  · go_enter Tryz.func92, Tryz.ntmps92
    go_wp2_with fail
    go_region_held2 (fun w' => w'.cell? ⟨gw, 0, none⟩ = some (.slice ao way.length c) ∧ w'.cell? ⟨gd, 0, none⟩ = some (.func (.func F) #[] caps))
      (first
        | go_keep
        | exact ⟨(hb2.out.cell lw).trans cw, (hb2.out.cell ld).trans cd⟩
        | exact ⟨hk3.out.cell (fun hm => by have := Hbs.out _ hm; simp at this; omega) ((hb2.out.cell lw).trans cw), hk3.out.cell (fun hm => by have := Hbs.out _ hm; simp at this; omega) ((hb2.out.cell ld).trans cd)⟩)
      (first
        | (go_at_call 93; refine (hcl.out _).mono ?_; rintro e w' ⟨rfl, rfl⟩)
        | (refine step_append_grows (by rfl) _ _ _ (by rfl) 3 i0 (.int .i64 0) 1 8 Tryz.underlying49 hi hz0 hz1 hz2 rfl (by decide) ao way.length way.length (way.map (.int .i64)) (by rfl) Hn.out (by simp) (Hold.out _ hal.out) ⟨w.heap.size, 0, none⟩ 1 1 [.int .i64 k] (by rfl) (by rfl) (by intro j u hu; match j, hu with | 0, hu => simp at hu; subst hu; simp [Addr.add, go_sem]) (by simp [Value.oneCell']) (by omega) (by unfold maxLen; omega) (by omega) ?_
           intro v' w1 hown hg
           obtain ⟨g, cap, rfl, hw2, hb2'⟩ := way_grown rfl hal.out hB hlen hown hg
           have hb2 := Lib.hid hb2'
           have Hw2 := Lib.hid hw2
           clear hown hg hb2' hw2)
        | (go_at_call 56
           refine (Hih.out _ _ _ (hK.out _ hb2.out).1 (hK.out _ hb2.out).2.1 (hK.out _ hb2.out).2.2.1 Hw2.out (hK.out _ hb2.out).2.2.2).mono ?_
           rintro e w3 ⟨hk3', he', hp3⟩
           have he : e = .returned (.bool true) := he'
           clear he'
           subst he
           have hk3 := Lib.hid hk3'
           have Hp3 := Lib.hid hp3
           clear hk3' hp3))
    all_goals
      clear Hih Hold hcl hal cw cd
      go_wp2_with fail
      go_ret
      exact Hq.out _ w1 _ _ hb2.out ⟨hk3.out, rfl, Hp3.out⟩
  · go_enter Tryz.func92, Tryz.ntmps92
    go_wp2_with fail
    go_region_held2 (fun w' => w'.cell? ⟨gw, 0, none⟩ = some (.slice ao way.length c) ∧ w'.cell? ⟨gd, 0, none⟩ = some (.func (.func F) #[] caps))
      (first
        | go_keep
        | exact ⟨(hb2.out.cell lw).trans cw, (hb2.out.cell ld).trans cd⟩
        | exact ⟨hk3.out.cell (fun hm => by have := Hbs.out _ hm; simp at this; omega) ((hb2.out.cell lw).trans cw), hk3.out.cell (fun hm => by have := Hbs.out _ hm; simp at this; omega) ((hb2.out.cell ld).trans cd)⟩)
      (first
        | (go_at_call 93; refine (hcl.out _).mono ?_; rintro e w' ⟨rfl, rfl⟩)
        | (refine step_append_grows (by rfl) _ _ _ (by rfl) 3 i0 (.int .i64 0) 1 8 Tryz.underlying49 hi hz0 hz1 hz2 rfl (by decide) ao way.length way.length (way.map (.int .i64)) (by rfl) Hn.out (by simp) (Hold.out _ hal.out) ⟨w.heap.size, 0, none⟩ 1 1 [.int .i64 k] (by rfl) (by rfl) (by intro j u hu; match j, hu with | 0, hu => simp at hu; subst hu; simp [Addr.add, go_sem]) (by simp [Value.oneCell']) (by omega) (by unfold maxLen; omega) (by omega) ?_
           intro v' w1 hown hg
           obtain ⟨g, cap, rfl, hw2, hb2'⟩ := way_grown rfl hal.out hB hlen hown hg
           have hb2 := Lib.hid hb2'
           have Hw2 := Lib.hid hw2
           clear hown hg hb2' hw2)
        | (go_at_call 56
           refine (Hih.out _ _ _ (hK.out _ hb2.out).1 (hK.out _ hb2.out).2.1 (hK.out _ hb2.out).2.2.1 Hw2.out (hK.out _ hb2.out).2.2.2).mono ?_
           rintro e w3 ⟨hk3', he', hp3⟩
           have he : e = .returned (.bool false) := he'
           clear he'
           subst he
           have hk3 := Lib.hid hk3'
           have Hp3 := Lib.hid hp3
           clear hk3' hp3))
    all_goals
      clear Hih Hold hcl hal cw cd
      go_wp2_with fail
      go_ret
      exact Hq.out _ w1 _ _ hb2.out ⟨hk3.out, rfl, Hp3.out⟩
  · go_enter Tryz.func92, Tryz.ntmps92
    go_wp2_with fail
    go_region_held2 (fun w' => w'.cell? ⟨gw, 0, none⟩ = some (.slice ao way.length c) ∧ w'.cell? ⟨gd, 0, none⟩ = some (.func (.func F) #[] caps))
      (first
        | go_keep
        | exact ⟨(hb2.out.cell lw).trans cw, (hb2.out.cell ld).trans cd⟩
        | exact hf.elim)
      (first
        | (go_at_call 93; refine (hcl.out _).mono ?_; rintro e w' ⟨rfl, rfl⟩)
        | (refine step_append_grows (by rfl) _ _ _ (by rfl) 3 i0 (.int .i64 0) 1 8 Tryz.underlying49 hi hz0 hz1 hz2 rfl (by decide) ao way.length way.length (way.map (.int .i64)) (by rfl) Hn.out (by simp) (Hold.out _ hal.out) ⟨w.heap.size, 0, none⟩ 1 1 [.int .i64 k] (by rfl) (by rfl) (by intro j u hu; match j, hu with | 0, hu => simp at hu; subst hu; simp [Addr.add, go_sem]) (by simp [Value.oneCell']) (by omega) (by unfold maxLen; omega) (by omega) ?_
           intro v' w1 hown hg
           obtain ⟨g, cap, rfl, hw2, hb2'⟩ := way_grown rfl hal.out hB hlen hown hg
           have hb2 := Lib.hid hb2'
           have Hw2 := Lib.hid hw2
           clear hown hg hb2' hw2)
        | (go_at_call 56
           refine (Hih.out _ _ _ (hK.out _ hb2.out).1 (hK.out _ hb2.out).2.1 (hK.out _ hb2.out).2.2.1 Hw2.out (hK.out _ hb2.out).2.2.2).mono (fun e w3 h => Or.inl (b := ∃ u, e = .returned u ∧ False) h) |>.mono ?_
           rintro e w3 (⟨hk3', he', hp3⟩ | ⟨u3, rfl, hf'⟩)
           · have he : e = .panicked chain := he'
             clear he'
             subst he
             exact ⟨rfl, Hq.out _ w1 _ _ hb2.out ⟨hk3', rfl, hp3⟩⟩
           have hf := Lib.hid hf'
           clear hf'))
    all_goals exact hf.out.elim
end Go.Proofs.YtbhmeapnmpgggaaGreatDoor
/- errs.walk: the walk over any tree, with any callee that keeps what Doer says. -/
namespace Go.Proofs.YtbhmeapnmpgggaaGreatDoor
open Go.RowKit

theorem E.walk_eq {S : Type} (st : S → E → List Int → S × Nat) (e : E) (way : List Int) (s : S) (h : e.k ≠ 0) :
    e.walk st way s = if (st s e way).2 = 0 then E.walkL st e.l 0 way (st s e way).1 else st s e way := by
  cases e
  rw [E.walk]
  exact if_neg h
theorem E.walk_zero {S : Type} (st : S → E → List Int → S × Nat) (e : E) (way : List Int) (s : S) (h : e.k = 0) : e.walk st way s = (s, 0) := by
  cases e
  rw [E.walk]
  exact if_pos h
theorem E.right_fit {e : E} (h : e.right = true) : e.fit = true := by
  cases e; rw [E.right, Bool.and_eq_true] at h; exact h.1
theorem E.right_list {e : E} (h : e.right = true) : E.rightL e.k e.l = true := by
  cases e; rw [E.right, Bool.and_eq_true] at h; exact h.2
theorem E.rightL_at {k : Int} : ∀ {l : List E} (_ : E.rightL k l = true) {q : Nat} {x : E}, l[q]? = some x → (k = 4 ∨ x.k ≠ 0) ∧ x.right = true
  | [], _, q, x, h => by simp at h
  | y :: l, hr, 0, x, h => by
    rw [E.rightL, Bool.and_eq_true, Bool.and_eq_true] at hr
    have : y = x := by simpa using h
    subst this
    exact ⟨by simpa using hr.1.1, hr.1.2⟩
  | y :: l, hr, q + 1, x, h => by
    rw [E.rightL, Bool.and_eq_true, Bool.and_eq_true] at hr
    exact E.rightL_at hr.2 (q := q) (by simpa using h)
theorem E.right_ok {e : E} (h : e.right = true) : E.okK e.k := by
  have := E.right_fit h
  unfold E.fit E.head at this
  simp only [Bool.and_eq_true, decide_eq_true_eq] at this
  exact this.1.1.1
theorem E.right_len {e : E} (h : e.right = true) : E.fLeast e.k ≤ e.l.length ∧ (e.l.length : Int) ≤ E.fMost e.k := by
  have := E.right_fit h
  unfold E.fit E.head at this
  rw [Bool.and_eq_true, Bool.and_eq_true, Bool.and_eq_true] at this
  exact (of_decide_eq_true this.1.2).2
theorem E.right_leaf {e : E} (h : e.right = true) (h3 : e.k ≠ 3) (h4 : e.k ≠ 4) (h8 : e.k ≠ 8) : e.l = [] := by
  have := (E.right_len h).2
  unfold E.fMost at this
  rw [if_neg h3, if_neg h8, if_neg h4] at this
  exact List.eq_nil_of_length_eq_zero (by omega)
theorem E.right_one {e : E} (h : e.right = true) (h3 : e.k = 3) : ∃ x, e.l = [x] := by
  have := E.right_len h
  unfold E.fMost E.fLeast at this
  rw [if_pos h3, if_pos h3] at this
  exact List.length_eq_one_iff.1 (by omega)
theorem E.right_like {e : E} (h : e.right = true) (h8 : e.k = 8) : e.l = [] ∨ ∃ x, e.l = [x] := by
  have := (E.right_len h).2
  unfold E.fMost at this
  rw [if_neg (by omega), if_pos h8] at this
  rcases Nat.lt_or_ge 0 e.l.length with g | g
  · exact .inr (List.length_eq_one_iff.1 (by omega))
  · exact .inl (List.eq_nil_of_length_eq_zero (by omega))
theorem E.right_4096 {e : E} (h : e.right = true) : e.l.length ≤ 4096 := by
  have := (E.right_len h).2
  unfold E.fMost at this
  split at this
  · omega
  · split at this
    · omega
    · split at this <;> omega
/-! what kind of value a kind has -/
theorem EV.nil {B : Nat} {w : World} {e : E} {v : Value} (hv : EV B w e v) (h : e.k = 0) : v = .nilIface := by
  unfold EV at hv
  rcases hv with ⟨a, _⟩ | ⟨a, _⟩ | ⟨a, _⟩ | ⟨a, _⟩ | ⟨a, _⟩ | ⟨a, _⟩ | ⟨a, _⟩ | ⟨a, _⟩ | ⟨a, _⟩ | ⟨a, _⟩ | ⟨a, rfl⟩
  all_goals first
    | rfl
    | omega
theorem EV.iface {B : Nat} {w : World} {e : E} {v : Value} (hv : EV B w e v) (h : e.k ≠ 0) (hk : E.okK e.k) : ∃ t y, v = .iface t y := by
  unfold EV at hv
  rcases hv with ⟨a, rfl⟩ | ⟨a, g, b, rfl, d⟩ | ⟨a, g, b, rfl, d⟩ | ⟨a, g, b, rfl, d⟩ | ⟨a, g, b, rfl, d⟩ | ⟨a, rfl⟩ | ⟨a, rfl⟩ | ⟨a, g, b, rfl, d⟩ | ⟨a, g, b, rfl, d⟩ | ⟨a, rfl⟩ | ⟨a, rfl⟩
  case inr.inr.inr.inr.inr.inr.inr.inr.inr.inr => exact absurd a (by rintro (a | a); exact a hk; exact h a)
  all_goals exact ⟨_, _, rfl⟩
theorem EV.wrap {B : Nat} {w : World} {e : E} {v : Value} (hv : EV B w e v) (h : e.k = 3) : ∃ g, B ≤ g ∧ v = .iface 107 (.pointer (some ⟨g, 0, none⟩)) ∧ Blk w g 124 e.cs.toArray := by
  unfold EV E.okK at hv
  rcases hv with ⟨a, _⟩ | ⟨a, _⟩ | ⟨a, b⟩ | ⟨a, _⟩ | ⟨a, _⟩ | ⟨a, _⟩ | ⟨a, _⟩ | ⟨a, _⟩ | ⟨a, _⟩ | ⟨a, _⟩ | ⟨a, _⟩
  all_goals first
    | exact b
    | (exfalso; omega)
theorem EV.many {B : Nat} {w : World} {e : E} {v : Value} (hv : EV B w e v) (h : e.k = 4) : ∃ g, B ≤ g ∧ v = .iface 108 (.pointer (some ⟨g, 0, none⟩)) ∧ Blk w g 125 e.cs.toArray := by
  unfold EV E.okK at hv
  rcases hv with ⟨a, _⟩ | ⟨a, _⟩ | ⟨a, _⟩ | ⟨a, b⟩ | ⟨a, _⟩ | ⟨a, _⟩ | ⟨a, _⟩ | ⟨a, _⟩ | ⟨a, _⟩ | ⟨a, _⟩ | ⟨a, _⟩
  all_goals first
    | exact b
    | (exfalso; omega)
theorem EV.like {B : Nat} {w : World} {e : E} {v : Value} (hv : EV B w e v) (h : e.k = 8) : ∃ g, B ≤ g ∧ v = .iface 113 (.pointer (some ⟨g, 0, none⟩)) ∧ Blk w g 126 e.cs.toArray := by
  unfold EV E.okK at hv
  rcases hv with ⟨a, _⟩ | ⟨a, _⟩ | ⟨a, _⟩ | ⟨a, _⟩ | ⟨a, _⟩ | ⟨a, _⟩ | ⟨a, _⟩ | ⟨a, b⟩ | ⟨a, _⟩ | ⟨a, _⟩ | ⟨a, _⟩
  all_goals first
    | exact b
    | (exfalso; omega)
theorem EV.leaf {B : Nat} {w : World} {e : E} {v : Value} (hv : EV B w e v) (h0 : e.k ≠ 0) (hk : E.okK e.k) (h3 : e.k ≠ 3) (h4 : e.k ≠ 4) (h8 : e.k ≠ 8) :
    (∀ w', (Instr.typeAssert v 68 130 true).run Tryz.prog w' = .ok (.tuple #[.nilIface, .bool false]) w') ∧
    (∀ w', (Instr.typeAssert v 68 133 true).run Tryz.prog w' = .ok (.tuple #[.nilIface, .bool false]) w') := by
  unfold EV at hv
  rcases hv with ⟨a, rfl⟩ | ⟨a, g, b, rfl, d⟩ | ⟨a, g, b, rfl, d⟩ | ⟨a, g, b, rfl, d⟩ | ⟨a, g, b, rfl, d⟩ | ⟨a, rfl⟩ | ⟨a, rfl⟩ | ⟨a, g, b, rfl, d⟩ | ⟨a, g, b, rfl, d⟩ | ⟨a, rfl⟩ | ⟨a, rfl⟩
  · exact ⟨asPlain4 _, asPlain5 _⟩
  · exact ⟨asPtr4 _, asPtr5 _⟩
  · exact absurd a h3
  · exact absurd a h4
  · exact ⟨asHold4 _, asHold5 _⟩
  · exact ⟨asList4 _, asList5 _⟩
  · exact ⟨asPtr4 _, asPtr5 _⟩
  · exact absurd a h8
  · exact ⟨asAs4 _, asAs5 _⟩
  · exact ⟨asTime4 _, asTime5 _⟩
  · exact absurd a (by rintro (a | a); exact a hk; exact h0 a)
end Go.Proofs.YtbhmeapnmpgggaaGreatDoor
