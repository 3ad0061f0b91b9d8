/- slices.Clip of ints; the closure 'next' of errs.walk: the walks. -/
import Derived.Test.YtbhmeapnmpgggaaGreatDoorWalkBase
import Derived.Deep.RegionLawGrows
import Derived.Deep.RegionHeld2
namespace Go.Proofs.YtbhmeapnmpgggaaGreatDoor
open Go.RowKit

set_option maxHeartbeats 2000000 in
set_option maxRecDepth 100000 in
theorem clip_any (ao : Option Addr) (n c : Nat) (w : World) (hn : n ≤ c) (hc : c ≤ 9223372036854775807) (h0 : ao = none → n = 0 ∧ c = 0) :
    Calls Tryz.prog 93 #[.slice ao n c] w fun e w' => e = .returned (.slice ao n n) ∧ w' = w := by
  go_enter Tryz.func93, Tryz.ntmps93
  go_wp2_with fail
  all_goals go_ret
  all_goals exact ⟨rfl, rfl⟩

theorem infoInt : (Tryz.prog.info? 3).map (fun i => (i.zero, i.size, i.bytes)) = some (some (.int .i64 0), 1, 8) := by kernel_rfl

theorem way_grown {B2 n : Nat} {w W w1 : World} {way : List Int} {k : Nat} {v' : Value} (hn : n = way.length) (hbW : Below w.heap.size w W) (hB : B2 ≤ w.heap.size) (hlen : way.length + 1 ≤ 4096)
    (hown : w1.ownsRow W.heap.size 3 1 v' (n + 1) (way.map (.int .i64) ++ [.int .i64 k])) (hg : W.grownBy w1 none) :
    ∃ g cap, v' = .slice (some ⟨g, 0, none⟩) (way.length + 1) cap ∧ Way B2 w1 (some ⟨g, 0, none⟩) cap (way ++ [(k : Int)]) ∧ Below w.heap.size w w1 := by
  subst hn
  have hb := hbW.grown hg hbW.size (by simp)
  rcases hown.2 with ⟨_, h0⟩ | ⟨g, cap, cur, rfl, h3, h4, h5, h6, h7, h8⟩
  · omega
  · refine ⟨g, cap, rfl, ⟨by simpa using h5, by unfold maxLen at h6; omega, by simp; omega, by simp, ?_, ?_⟩, hb⟩
    · intro ad e
      cases e
      exact Nat.le_trans hB (Nat.le_trans hbW.size h3)
    · intro q x hq
      refine ⟨_, rfl, ?_⟩
      have := hown.cells (g := g) rfl q (.int .i64 x) (by
        have : (way.map (Value.int .i64) ++ [Value.int .i64 (k : Int)])[q]? = ((way ++ [(k : Int)]).map (Value.int .i64))[q]? := by simp
        rw [this, List.getElem?_map, hq]
        rfl)
      exact this

set_option maxHeartbeats 4000000 in
set_option maxRecDepth 100000 in
theorem next_any {S : Type} {st : S → E → List Int → S × Nat} {P : S → World → Prop} {bs : List Nat} {B2 F : Nat} {caps : Array Value} {chain : List PanicEntry} (hP : ∀ s w w', P s w → Below w.heap.size w w' → P s w')
    (hbs : ∀ k ∈ bs, k < B2) (x : E) (k : Nat) (ao : Option Addr) (c : Nat) (way : List Int) (s : S) (v : Value) (gw gd : Nat) (w : World)
    (hx : x.In w) (hs : P s w) (hv : EVn bs w x v) (hway : Way B2 w ao c way) (hlen : way.length + 1 ≤ 4096) (hB : B2 ≤ w.heap.size) (hgw : B2 ≤ gw) (hgd : B2 ≤ gd)
    (bw : Blk w gw 49 #[.slice ao way.length c]) (bd : Blk w gd 78 #[.func (.func F) #[] caps])
    (ih : ∀ ao' c' w', P s w' → x.In w' → EVn bs w' x v → Way B2 w' ao' c' (way ++ [(k : Int)]) → B2 ≤ w'.heap.size →
      Calls Tryz.prog 56 #[v, .slice ao' (way.length + 1) c', .func (.func F) #[] caps] w' (Goes st P bs chain w' (x.walk st (way ++ [(k : Int)]) s))) :
    Calls Tryz.prog 92 #[.int .i64 k, v, .pointer (some ⟨gw, 0, none⟩), .pointer (some ⟨gd, 0, none⟩)] w (Goes st P bs chain w (x.walk st (way ++ [(k : Int)]) s)) := by
  have hkeep : ∀ w', Below w.heap.size w w' → (P s w' ∧ x.In w' ∧ EVn bs w' x v ∧ B2 ≤ w'.heap.size) := fun w' hb =>
    ⟨hP _ _ _ hs hb, hx.below hb, hv.below hb, Nat.le_trans hB hb.size⟩
  have hold : ∀ W, Below w.heap.size w W → ∀ b, ao = some b → ∀ j u, (way.map (Value.int .i64))[j]? = some u → W.cell? (b.add j) = some u := by
    intro W hb b e j u hu
    rw [List.getElem?_map] at hu
    obtain ⟨y, hy, rfl⟩ := Option.map_eq_some_iff.1 hu
    obtain ⟨ad, e', hc⟩ := hway.2.2.2.2.2 j y hy
    rw [e] at e'; injection e' with e'; subst e'
    exact (hb.cell (lt_of_cell hc)).trans hc
  obtain ⟨i0, hi, hz0, hz1, hz2⟩ := info_parts infoInt
  have cw := bw.cell 0
  have cd := bd.cell 0
  simp at cw cd
  have lw := bw.lt
  have ld := bd.lt
  clear bw bd
  have hcl := Lib.hid (fun w => clip_any ao way.length c w hway.1 hway.2.1 (fun e => ⟨by rw [(hway.2.2.2.1 e).1]; rfl, (hway.2.2.2.1 e).2⟩))
  have hK := Lib.hid hkeep
  have hnone : ao = none → way.length = 0 ∧ way.length = 0 := fun e => by rw [(hway.2.2.2.1 e).1]; exact ⟨rfl, rfl⟩
  have Hn := Lib.hid hnone
  have Hih := Lib.hid ih
  have Hold := Lib.hid hold
  have Hbs := Lib.hid hbs
  have HQ : ∀ r w1 e w', Below w.heap.size w w1 → Goes st P bs chain w1 r e w' → Goes st P bs chain w r e w' := fun r w1 e w' hb h => ⟨(Kept.of_below hb _).trans h.1, h.2⟩
  have Hq := Lib.hid HQ
  clear ih hnone hkeep hx hs hv hway hP hold hbs HQ
  have hal := Lib.hid ((Below.refl w.heap.size w).alloc (Nat.le_refl _) (.cells #[.int .i64 k] 3)).drew
  generalize x.walk st (way ++ [(k : Int)]) s = r at *
  obtain ⟨s', n⟩ := r
  rcases n with _ | _ | n
  · go_enter Tryz.func92, Tryz.ntmps92
    go_wp2_with fail
    go_region_held2 (fun w' => w'.cell? ⟨gw, 0, none⟩ = some (.slice ao way.length c) ∧ w'.cell? ⟨gd, 0, none⟩ = some (.func (.func F) #[] caps))
      (first
        | go_keep
        | exact ⟨(hb2.out.cell lw).trans cw, (hb2.out.cell ld).trans cd⟩
        | exact ⟨hk3.out.cell (fun hm => by have := Hbs.out _ hm; simp at this; omega) ((hb2.out.cell lw).trans cw), hk3.out.cell (fun hm => by have := Hbs.out _ hm; simp at this; omega) ((hb2.out.cell ld).trans cd)⟩)
      (first
        | (go_at_call 93; refine (hcl.out _).mono ?_; rintro e w' ⟨rfl, rfl⟩)
        | (refine step_append_grows (by rfl) _ _ _ (by rfl) 3 i0 (.int .i64 0) 1 8 Tryz.underlying49 hi hz0 hz1 hz2 rfl (by decide) ao way.length way.length (way.map (.int .i64)) (by rfl) Hn.out (by simp) (Hold.out _ hal.out) ⟨w.heap.size, 0, none⟩ 1 1 [.int .i64 k] (by rfl) (by rfl) (by intro j u hu; match j, hu with | 0, hu => simp at hu; subst hu; simp [Addr.add, go_sem]) (by simp [Value.oneCell']) (by omega) (by unfold maxLen; omega) (by omega) ?_
           intro v' w1 hown hg
           obtain ⟨g, cap, rfl, hw2, hb2'⟩ := way_grown rfl hal.out hB hlen hown hg
           have hb2 := Lib.hid hb2'
           have Hw2 := Lib.hid hw2
           clear hown hg hb2' hw2)
        | (go_at_call 56
           refine (Hih.out _ _ _ (hK.out _ hb2.out).1 (hK.out _ hb2.out).2.1 (hK.out _ hb2.out).2.2.1 Hw2.out (hK.out _ hb2.out).2.2.2).mono ?_
           rintro e w3 ⟨hk3', he', hp3⟩
           have he : e = .returned (.bool true) := he'
           clear he'
           subst he
           have hk3 := Lib.hid hk3'
           have Hp3 := Lib.hid hp3
           clear hk3' hp3))
    all_goals
      clear Hih Hold hcl hal cw cd
      go_wp2_with fail
      go_ret
      exact Hq.out _ w1 _ _ hb2.out ⟨hk3.out, rfl, Hp3.out⟩
  · go_enter Tryz.func92, Tryz.ntmps92
    go_wp2_with fail
    go_region_held2 (fun w' => w'.cell? ⟨gw, 0, none⟩ = some (.slice ao way.length c) ∧ w'.cell? ⟨gd, 0, none⟩ = some (.func (.func F) #[] caps))
      (first
        | go_keep
        | exact ⟨(hb2.out.cell lw).trans cw, (hb2.out.cell ld).trans cd⟩
        | exact ⟨hk3.out.cell (fun hm => by have := Hbs.out _ hm; simp at this; omega) ((hb2.out.cell lw).trans cw), hk3.out.cell (fun hm => by have := Hbs.out _ hm; simp at this; omega) ((hb2.out.cell ld).trans cd)⟩)
      (first
        | (go_at_call 93; refine (hcl.out _).mono ?_; rintro e w' ⟨rfl, rfl⟩)
        | (refine step_append_grows (by rfl) _ _ _ (by rfl) 3 i0 (.int .i64 0) 1 8 Tryz.underlying49 hi hz0 hz1 hz2 rfl (by decide) ao way.length way.length (way.map (.int .i64)) (by rfl) Hn.out (by simp) (Hold.out _ hal.out) ⟨w.heap.size, 0, none⟩ 1 1 [.int .i64 k] (by rfl) (by rfl) (by intro j u hu; match j, hu with | 0, hu => simp at hu; subst hu; simp [Addr.add, go_sem]) (by simp [Value.oneCell']) (by omega) (by unfold maxLen; omega) (by omega) ?_
           intro v' w1 hown hg
           obtain ⟨g, cap, rfl, hw2, hb2'⟩ := way_grown rfl hal.out hB hlen hown hg
           have hb2 := Lib.hid hb2'
           have Hw2 := Lib.hid hw2
           clear hown hg hb2' hw2)
        | (go_at_call 56
           refine (Hih.out _ _ _ (hK.out _ hb2.out).1 (hK.out _ hb2.out).2.1 (hK.out _ hb2.out).2.2.1 Hw2.out (hK.out _ hb2.out).2.2.2).mono ?_
           rintro e w3 ⟨hk3', he', hp3⟩
           have he : e = .returned (.bool false) := he'
           clear he'
           subst he
           have hk3 := Lib.hid hk3'
           have Hp3 := Lib.hid hp3
           clear hk3' hp3))
    all_goals
      clear Hih Hold hcl hal cw cd
      go_wp2_with fail
      go_ret
      exact Hq.out _ w1 _ _ hb2.out ⟨hk3.out, rfl, Hp3.out⟩
  · go_enter Tryz.func92, Tryz.ntmps92
    go_wp2_with fail
    go_region_held2 (fun w' => w'.cell? ⟨gw, 0, none⟩ = some (.slice ao way.length c) ∧ w'.cell? ⟨gd, 0, none⟩ = some (.func (.func F) #[] caps))
      (first
        | go_keep
        | exact ⟨(hb2.out.cell lw).trans cw, (hb2.out.cell ld).trans cd⟩
        | exact hf.elim)
      (first
        | (go_at_call 93; refine (hcl.out _).mono ?_; rintro e w' ⟨rfl, rfl⟩)
        | (refine step_append_grows (by rfl) _ _ _ (by rfl) 3 i0 (.int .i64 0) 1 8 Tryz.underlying49 hi hz0 hz1 hz2 rfl (by decide) ao way.length way.length (way.map (.int .i64)) (by rfl) Hn.out (by simp) (Hold.out _ hal.out) ⟨w.heap.size, 0, none⟩ 1 1 [.int .i64 k] (by rfl) (by rfl) (by intro j u hu; match j, hu with | 0, hu => simp at hu; subst hu; simp [Addr.add, go_sem]) (by simp [Value.oneCell']) (by omega) (by unfold maxLen; omega) (by omega) ?_
           intro v' w1 hown hg
           obtain ⟨g, cap, rfl, hw2, hb2'⟩ := way_grown rfl hal.out hB hlen hown hg
           have hb2 := Lib.hid hb2'
           have Hw2 := Lib.hid hw2
           clear hown hg hb2' hw2)
        | (go_at_call 56
           refine (Hih.out _ _ _ (hK.out _ hb2.out).1 (hK.out _ hb2.out).2.1 (hK.out _ hb2.out).2.2.1 Hw2.out (hK.out _ hb2.out).2.2.2).mono (fun e w3 h => Or.inl (b := ∃ u, e = .returned u ∧ False) h) |>.mono ?_
           rintro e w3 (⟨hk3', he', hp3⟩ | ⟨u3, rfl, hf'⟩)
           · have he : e = .panicked chain := he'
             clear he'
             subst he
             exact ⟨rfl, Hq.out _ w1 _ _ hb2.out ⟨hk3', rfl, hp3⟩⟩
           have hf := Lib.hid hf'
           clear hf'))
    all_goals exact hf.out.elim
end Go.Proofs.YtbhmeapnmpgggaaGreatDoor
