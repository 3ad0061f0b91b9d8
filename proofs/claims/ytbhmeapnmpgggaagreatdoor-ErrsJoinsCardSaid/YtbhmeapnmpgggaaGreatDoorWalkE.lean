/- errs.walk: the walk. Conditions: the tree lies in the world and is right; the callee keeps what Doer says. -/
import Derived.Test.YtbhmeapnmpgggaaGreatDoorWalk
namespace Go.Proofs.YtbhmeapnmpgggaaGreatDoor
open Go.RowKit

theorem E.walkL_one {S : Type} (st : S → E → List Int → S × Nat) (x : E) (way : List Int) (s : S) : E.walkL st [x] 0 way s = x.walk st (way ++ [((0 : Nat) : Int)]) s := by
  rw [E.walkL]
  split
  · rename_i h
    rw [E.walkL]
    ext
    · rfl
    · exact h.symm
  · rfl

theorem methodW (g : Nat) : ∀ w, (method 450 107 (.pointer (some ⟨g, 0, none⟩)) "Unwrap").run Tryz.prog w = .ok (206, .pointer (some ⟨g, 0, none⟩)) w := fun _ => by kernel_rfl
theorem methodL (g : Nat) : ∀ w, (method 450 113 (.pointer (some ⟨g, 0, none⟩)) "Unwrap").run Tryz.prog w = .ok (219, .pointer (some ⟨g, 0, none⟩)) w := fun _ => by kernel_rfl
theorem methodM (g : Nat) : ∀ w, (method 450 108 (.pointer (some ⟨g, 0, none⟩)) "Unwrap").run Tryz.prog w = .ok (210, .pointer (some ⟨g, 0, none⟩)) w := fun _ => by kernel_rfl

def E.zero : E := .mk 0 0 0 ⟨#[]⟩ D.zero none 0 [] none 0 []
theorem E.zero_in (w : World) : E.zero.In w := by
  unfold E.zero
  refine ⟨?_, D.zero_in w, fun q x h => by simp at h, trivial⟩
  simp [E.Rng, ByteArray.size]
theorem EV.zero (B : Nat) (w : World) : EV B w E.zero .nilIface := by
  unfold EV
  exact .inr (.inr (.inr (.inr (.inr (.inr (.inr (.inr (.inr (.inr ⟨.inr rfl, rfl⟩)))))))))

set_option maxHeartbeats 4000000 in
set_option maxRecDepth 100000 in
theorem walk_nil {S : Type} {st : S → E → List Int → S × Nat} {P : S → World → Prop} {bs : List Nat} {F : Nat} {caps : Array Value} {chain : List PanicEntry} (hP : ∀ s w w', P s w → Below w.heap.size w w' → P s w')
    (ao : Option Addr) (n c : Nat) (s : S) (w : World) (hs : P s w) : Calls Tryz.prog 56 #[.nilIface, .slice ao n c, .func (.func F) #[] caps] w (Goes st P bs chain w (s, 0)) := by
  have hb2 : Below w.heap.size w ((w.alloc (.cells #[.slice ao n c] 49)).alloc (.cells #[.func (.func F) #[] caps] 78)) := ((Below.refl _ _).alloc (Nat.le_refl _) _).alloc (by simp) _
  have hq : Goes st P bs chain w (s, 0) (.returned (.bool true)) ((w.alloc (.cells #[.slice ao n c] 49)).alloc (.cells #[.func (.func F) #[] caps] 78)) := ⟨Kept.of_below hb2 _, rfl, hP _ _ _ hs hb2⟩
  have Hq := Lib.hid hq
  clear hs hb2 hq hP
  go_enter Tryz.func56, Tryz.ntmps56
  go_wp2_with fail
  go_ret
  exact Hq.out

set_option maxHeartbeats 4000000 in
set_option maxRecDepth 100000 in
theorem walk_any {S : Type} {st : S → E → List Int → S × Nat} {P : S → World → Prop} {bs : List Nat} {B B2 F : Nat} {caps : Array Value} {chain : List PanicEntry} (D : Doer st P bs B B2 F caps chain) (n : Nat) :
    ∀ (e : E) (way : List Int) (ao : Option Addr) (c : Nat) (s : S) (v : Value) (w : World), e.size ≤ n → way.length + e.size ≤ 4096 → e.In w → e.Lo B → e.right = true → P s w → EVn bs w e v → Way B2 w ao c way → B2 ≤ w.heap.size →
      Calls Tryz.prog 56 #[v, .slice ao way.length c, .func (.func F) #[] caps] w (Goes st P bs chain w (e.walk st way s)) := by
  induction n with
  | zero => intro e _ _ _ _ _ _ h; rw [E.size_eq] at h; omega
  | succ n ih =>
    intro e way ao c s v w hn hlen he hlo hr hs hv hway hB
    have hb2 : Below w.heap.size w ((w.alloc (.cells #[.slice ao way.length c] 49)).alloc (.cells #[.func (.func F) #[] caps] 78)) := ((Below.refl _ _).alloc (Nat.le_refl _) _).alloc (by simp) _
    by_cases h0 : e.k = 0
    · obtain rfl := hv.1.nil h0
      rw [E.walk_zero _ _ _ _ h0]
      exact walk_nil D.stays ao _ c s w hs
    · rw [E.walk_eq _ _ _ _ h0]
      have hdo := D.does s e way v ao c _ (D.stays _ _ _ hs hb2) (he.below hb2) hlo hr h0 (hv.below hb2) (hway.below hb2) (Nat.le_trans hB hb2.size)
      have bw : Blk ((w.alloc (.cells #[.slice ao way.length c] 49)).alloc (.cells #[.func (.func F) #[] caps] 78)) w.heap.size 49 #[.slice ao way.length c] := (Blk.new _ _ _).alloc _
      have bd : Blk ((w.alloc (.cells #[.slice ao way.length c] 49)).alloc (.cells #[.func (.func F) #[] caps] 78)) (w.heap.size + 1) 78 #[.func (.func F) #[] caps] := Blk.new' (by simp) _ _
      obtain ⟨T, y, hvT⟩ := hv.1.iface h0 (E.right_ok hr)
      have hcf := D.enters
      have HD := Lib.hid D
      have Hih := Lib.hid ih
      have Hdo := Lib.hid hdo
      have Hv := Lib.hid (And.intro hv hvT)
      have Hb := Lib.hid (And.intro bw (And.intro bd hb2))
      have He := Lib.hid (And.intro he (And.intro hlo (And.intro hr (And.intro hs (And.intro hway h0)))))
      clear ih D hdo hv bw bd hb2 he hlo hr hs hway h0
      subst hvT
      generalize hst : st s e way = r1 at Hdo ⊢
      obtain ⟨s1, m⟩ := r1
      have hKb : ∀ w1, Kept bs ((w.alloc (.cells #[.slice ao way.length c] 49)).alloc (.cells #[.func (.func F) #[] caps] 78)) w1 → Kept bs w w1 := fun w1 h => (Kept.of_below Hb.out.2.2 _).trans h
      have HKb := Lib.hid hKb
      clear hKb hst
      rcases m with _ | _ | m
      · rw [if_pos rfl]
        generalize hr : E.walkL st e.l 0 way s1 = r
        have Hr := Lib.hid hr
        clear hr
        go_enter Tryz.func56, Tryz.ntmps56
        go_wp2_with fail
        refine Hdo.out.mono ?_
        rintro en w1 ⟨hk1, he1, hp1⟩
        have he1' : en = .returned (.bool true) := he1
        clear he1
        subst he1'
        have hbs := HD.out.hbs
        have bw1 := Hb.out.1.kept hk1 (fun hm => by have := hbs _ hm; omega)
        have bd1 := Hb.out.2.1.kept hk1 (fun hm => by have := hbs _ hm; omega)
        have hv1 := (Hv.out.1.below Hb.out.2.2).kept hk1
        have hway1 := (He.out.2.2.2.2.1.below Hb.out.2.2).kept hk1 (fun k hm => (hbs _ hm).2)
        have he1 := (He.out.1.below Hb.out.2.2).below' (hk1.below (Nat.le_trans HD.out.hB (Nat.le_trans hB Hb.out.2.2.size)) (fun k hm => (hbs _ hm).1)) He.out.2.1
        have hB1 := Nat.le_trans hB (Nat.le_trans Hb.out.2.2.size hk1.size)
        have H1 := Lib.hid (And.intro bw1 (And.intro bd1 (And.intro hv1 (And.intro hway1 (And.intro he1 (And.intro hp1 (HKb.out _ hk1)))))))
        clear hbs bw1 bd1 hv1 hway1 he1 hk1 hp1 Hdo HKb
        go_upto_region 6 with fail
        have hr := He.out.2.2.1
        have hsz := E.size_eq e
        by_cases h3 : e.k = 3
        · obtain ⟨g, hg, hve, hblk⟩ := H1.out.2.2.1.1.wrap h3
          injection hve with hT hy
          subst hT hy
          obtain ⟨x, hl⟩ := E.right_one hr h3
          have hx0 : e.l[0]? = some x := by rw [hl]; rfl
          have hU := Lib.hid (unwrapW_any e x g w1 hblk H1.out.2.2.2.2.1 hx0)
          have hxr := E.rightL_at (E.right_list hr) hx0
          have hxs : E.sizeL e.l = x.size := by rw [hl, E.sizeL, E.sizeL, Nat.add_zero]
          have hxp := E.size_pos x
          have hN : ∀ vx w2, EV w1.heap.size w2 x vx → Below w1.heap.size w1 w2 → Calls Tryz.prog 92 #[.int .i64 0, vx, .pointer (some ⟨w.heap.size, 0, none⟩), .pointer (some ⟨w.heap.size + 1, 0, none⟩)] w2 (Goes st P bs chain w r) := fun vx w2 hev hbw => by
            have := next_any (st := st) (bs := bs) (F := F) (caps := caps) (chain := chain) HD.out.stays (fun k hm => (HD.out.hbs k hm).2) x 0 ao c way s1 vx w.heap.size (w.heap.size + 1) w2 ((H1.out.2.2.2.2.1.at_ hx0).2.below hbw) (HD.out.stays _ _ _ H1.out.2.2.2.2.2.1 hbw) (EVn.of hev (fun k hm => Nat.lt_of_lt_of_le (HD.out.hbs k hm).2 hB1)) (H1.out.2.2.2.1.below hbw) (by omega) (Nat.le_trans hB1 hbw.size) hB (by omega)
              (H1.out.1.below hbw H1.out.1.lt) (H1.out.2.1.below hbw H1.out.2.1.lt)
              (fun ao' c' w' hp hin hv' hw' hB' => by
                have := Hih.out x (way ++ [((0 : Nat) : Int)]) ao' c' s1 vx w' (by omega) (by simp; omega) hin (E.LoL.at_ (B := B) (A := e.A) (l := e.l) (by have := He.out.2.1; cases e; exact this.2.2) hx0).2 hxr.2 hp hv' hw' hB'
                rw [List.length_append] at this
                exact this)
            rw [← Hr.out, hl, E.walkL_one]
            exact this.mono fun en w' h => ⟨(H1.out.2.2.2.2.2.2.trans (Kept.of_below hbw _)).trans h.1, h.2⟩
          have HN := Lib.hid hN
          have t4 := asWrap4 (.pointer (some ⟨g, 0, none⟩)) w1
          have tm := methodW g
          clear hN Hr hxr hxs hxp hl
          go_wp2_with fail
          refine hU.out.mono ?_
          rintro en w2 ⟨vx, rfl, hev2, hb2⟩
          have hc := Lib.hid (HN.out vx w2 hev2 hb2)
          have hd1 := (H1.out.2.1.below hb2 H1.out.2.1.lt).cell 0
          clear HN hU hev2 hb2 t4 tm
          obtain ⟨s2, m2⟩ := r
          rcases m2 with _ | _ | m2
          · go_wp2_with fail
            refine hc.out.mono ?_
            rintro en w3 ⟨hk3, he3, hp3⟩
            have he3' : en = .returned (.bool true) := he3
            clear he3
            subst he3'
            have H3 := Lib.hid (And.intro hk3 hp3)
            clear hk3 hp3 hc hd1
            go_wp2_with fail
            go_ret
            exact ⟨H3.out.1, rfl, H3.out.2⟩
          · go_wp2_with fail
            refine hc.out.mono ?_
            rintro en w3 ⟨hk3, he3, hp3⟩
            have he3' : en = .returned (.bool false) := he3
            clear he3
            subst he3'
            have H3 := Lib.hid (And.intro hk3 hp3)
            clear hk3 hp3 hc hd1
            go_wp2_with fail
            go_ret
            exact ⟨H3.out.1, rfl, H3.out.2⟩
          · go_wp2_with fail
            refine hc.out.mono ?_
            rintro en w3 ⟨hk3, he3, hp3⟩
            have he3' : en = .panicked chain := he3
            clear he3
            subst he3'
            exact ⟨rfl, hk3, rfl, hp3⟩
        · by_cases h8 : e.k = 8
          · obtain ⟨g, hg, hve, hblk⟩ := H1.out.2.2.1.1.like h8
            injection hve with hT hy
            subst hT hy
            rcases E.right_like hr h8 with hl | ⟨x, hl⟩
            · have hU := Lib.hid (unwrapL_none e g w1 hblk hl)
              have hN : Calls Tryz.prog 92 #[.int .i64 0, .nilIface, .pointer (some ⟨w.heap.size, 0, none⟩), .pointer (some ⟨w.heap.size + 1, 0, none⟩)] w1 (Goes st P bs chain w (s1, 0)) := by
                have h := next_any (st := st) (bs := bs) (F := F) (caps := caps) (chain := chain) HD.out.stays (fun k hm => (HD.out.hbs k hm).2) E.zero 0 ao c way s1 .nilIface w.heap.size (w.heap.size + 1) w1 (E.zero_in _) H1.out.2.2.2.2.2.1 (EVn.of (B := B2) (EV.zero _ _) (fun k hm => (HD.out.hbs k hm).2)) H1.out.2.2.2.1 (by have := E.size_pos e; omega) hB1 hB (by omega)
                  H1.out.1 H1.out.2.1 (fun ao' c' w' hp _ _ _ _ => by
                    rw [E.walk_zero _ E.zero _ _ rfl]
                    exact walk_nil HD.out.stays ao' _ c' s1 w' hp)
                rw [E.walk_zero _ E.zero _ _ rfl] at h
                exact h.mono fun en w' h => ⟨H1.out.2.2.2.2.2.2.trans h.1, h.2⟩
              have hc := Lib.hid hN
              have t4 := asLike4 (.pointer (some ⟨g, 0, none⟩)) w1
              have tm := methodL g
              have hq := Hr.out
              rw [hl, E.walkL] at hq
              subst hq
              have hd1 := H1.out.2.1.cell 0
              clear hN Hr hl
              go_wp2_with fail
              refine hU.out.mono ?_
              rintro en w2 ⟨rfl, rfl⟩
              clear hU t4 tm
              go_wp2_with fail
              refine hc.out.mono ?_
              rintro en w3 ⟨hk3, he3, hp3⟩
              have he3' : en = .returned (.bool true) := he3
              clear he3
              subst he3'
              have H3 := Lib.hid (And.intro hk3 hp3)
              clear hk3 hp3 hc hd1
              go_wp2_with fail
              go_ret
              exact ⟨H3.out.1, rfl, H3.out.2⟩
            · have hx0 : e.l[0]? = some x := by rw [hl]; rfl
              have hU := Lib.hid (unwrapL_any e x g w1 hblk H1.out.2.2.2.2.1 hx0)
              have hxr := E.rightL_at (E.right_list hr) hx0
              have hxs : E.sizeL e.l = x.size := by rw [hl, E.sizeL, E.sizeL, Nat.add_zero]
              have hxp := E.size_pos x
              have hN : ∀ vx w2, EV w1.heap.size w2 x vx → Below w1.heap.size w1 w2 → Calls Tryz.prog 92 #[.int .i64 0, vx, .pointer (some ⟨w.heap.size, 0, none⟩), .pointer (some ⟨w.heap.size + 1, 0, none⟩)] w2 (Goes st P bs chain w r) := fun vx w2 hev hbw => by
                have := next_any (st := st) (bs := bs) (F := F) (caps := caps) (chain := chain) HD.out.stays (fun k hm => (HD.out.hbs k hm).2) x 0 ao c way s1 vx w.heap.size (w.heap.size + 1) w2 ((H1.out.2.2.2.2.1.at_ hx0).2.below hbw) (HD.out.stays _ _ _ H1.out.2.2.2.2.2.1 hbw) (EVn.of hev (fun k hm => Nat.lt_of_lt_of_le (HD.out.hbs k hm).2 hB1)) (H1.out.2.2.2.1.below hbw) (by omega) (Nat.le_trans hB1 hbw.size) hB (by omega)
                  (H1.out.1.below hbw H1.out.1.lt) (H1.out.2.1.below hbw H1.out.2.1.lt)
                  (fun ao' c' w' hp hin hv' hw' hB' => by
                    have := Hih.out x (way ++ [((0 : Nat) : Int)]) ao' c' s1 vx w' (by omega) (by simp; omega) hin (E.LoL.at_ (B := B) (A := e.A) (l := e.l) (by have := He.out.2.1; cases e; exact this.2.2) hx0).2 hxr.2 hp hv' hw' hB'
                    rw [List.length_append] at this
                    exact this)
                rw [← Hr.out, hl, E.walkL_one]
                exact this.mono fun en w' h => ⟨(H1.out.2.2.2.2.2.2.trans (Kept.of_below hbw _)).trans h.1, h.2⟩
              have HN := Lib.hid hN
              have t4 := asLike4 (.pointer (some ⟨g, 0, none⟩)) w1
              have tm := methodL g
              clear hN Hr hxr hxs hxp hl
              go_wp2_with fail
              refine hU.out.mono ?_
              rintro en w2 ⟨vx, rfl, hev2, hb2⟩
              have hc := Lib.hid (HN.out vx w2 hev2 hb2)
              have hd1 := (H1.out.2.1.below hb2 H1.out.2.1.lt).cell 0
              clear HN hU hev2 hb2 t4 tm
              obtain ⟨s2, m2⟩ := r
              rcases m2 with _ | _ | m2
              · go_wp2_with fail
                refine hc.out.mono ?_
                rintro en w3 ⟨hk3, he3, hp3⟩
                have he3' : en = .returned (.bool true) := he3
                clear he3
                subst he3'
                have H3 := Lib.hid (And.intro hk3 hp3)
                clear hk3 hp3 hc hd1
                go_wp2_with fail
                go_ret
                exact ⟨H3.out.1, rfl, H3.out.2⟩
              · go_wp2_with fail
                refine hc.out.mono ?_
                rintro en w3 ⟨hk3, he3, hp3⟩
                have he3' : en = .returned (.bool false) := he3
                clear he3
                subst he3'
                have H3 := Lib.hid (And.intro hk3 hp3)
                clear hk3 hp3 hc hd1
                go_wp2_with fail
                go_ret
                exact ⟨H3.out.1, rfl, H3.out.2⟩
              · go_wp2_with fail
                refine hc.out.mono ?_
                rintro en w3 ⟨hk3, he3, hp3⟩
                have he3' : en = .panicked chain := he3
                clear he3
                subst he3'
                exact ⟨rfl, hk3, rfl, hp3⟩
          · by_cases h4 : e.k = 4
            · obtain ⟨g, hg, hve, hblk⟩ := H1.out.2.2.1.1.many h4
              injection hve with hT hy
              subst hT hy
              have hU := Lib.hid (unwrapM_any e g w1 hblk H1.out.2.2.2.2.1 (E.right_4096 hr))
              have hL := Lib.hid (show ∀ (q : Nat) (x : E), e.l[q]? = some x → (x.size ≤ n ∧ way.length + 1 + x.size ≤ 4096 ∧ x.Lo B ∧ x.right = true) from fun q x hq => by
                have h1 := E.sizeL_le hq
                exact ⟨by omega, by omega, (E.LoL.at_ (B := B) (A := e.A) (l := e.l) (by have := He.out.2.1; cases e; exact this.2.2) hq).2, (E.rightL_at (E.right_list hr) hq).2⟩)
              have hlen4 := E.right_4096 hr
              have t4 := asMany4 (.pointer (some ⟨g, 0, none⟩)) w1
              have t5 := asMany5 (.pointer (some ⟨g, 0, none⟩)) w1
              have tm := methodM g
              clear hsz hr
              go_wp2_with fail
              refine hU.out.mono ?_
              rintro en w2 ⟨sv, vs, rfl, hown, hvals, hb2⟩
              have hsl : ∃ ao2 c2, sv = .slice ao2 e.l.length c2 ∧ e.l.length ≤ c2 ∧ c2 ≤ 9223372036854775807 ∧ ∀ (q : Nat) (x : E), e.l[q]? = some x → ∃ ad vx, ao2 = some ad ∧ B2 ≤ ad.block ∧ w2.cell? (ad.add q) = some vx ∧ EVn bs w2 x vx := by
                rcases hown.2 with ⟨rfl, h0⟩ | ⟨g2, cap, cur, rfl, h3, h4, h5, h6, h7, h8⟩
                · exact ⟨none, 0, by rw [h0], by omega, by omega, fun q x hq => by rw [List.eq_nil_of_length_eq_zero h0] at hq; simp at hq⟩
                · refine ⟨_, cap, rfl, h5, by unfold maxLen at h6; omega, fun q x hq => ?_⟩
                  have hq' := (List.getElem?_eq_some_iff.1 hq).1
                  obtain ⟨vx, hvx, hev⟩ := hvals q x hq' hq
                  exact ⟨_, vx, rfl, Nat.le_trans hB1 h3, hown.cells (g := g2) rfl q vx hvx, EVn.of hev (fun k hm => Nat.lt_of_lt_of_le (HD.out.hbs k hm).2 hB1)⟩
              obtain ⟨ao2, c2, rfl, hc2, hc3, hsl⟩ := hsl
              have H2 := Lib.hid (And.intro (H1.out.1.below hb2 H1.out.1.lt) (And.intro (H1.out.2.1.below hb2 H1.out.2.1.lt) (And.intro (H1.out.2.2.2.1.below hb2) (And.intro (H1.out.2.2.2.2.1.below hb2) (And.intro (HD.out.stays _ _ _ H1.out.2.2.2.2.2.1 hb2) (And.intro (H1.out.2.2.2.2.2.2.trans (Kept.of_below hb2 _)) hsl))))))
              have hB2 : B2 ≤ w2.heap.size := Nat.le_trans hB1 hb2.size
              clear hown hvals hb2 hsl hU t4 t5 tm H1
              have Hll := Lib.hid (show E.InL w2 e.A 0 e.l from H2.out.2.2.2.1.list)
              generalize e.l = l at *
              go_wp2_with fail
              go_loopg [34] l.length (fun gk i wr => ∃ (j : Nat) (sj : S), i = .int .i64 j ∧ j + gk = l.length ∧ B2 ≤ wr.heap.size ∧ Hid (Blk wr w.heap.size 49 #[.slice ao way.length c] ∧ Blk wr (w.heap.size + 1) 78 #[.func (.func F) #[] caps] ∧ Way B2 wr ao c way ∧ P sj wr ∧ Kept bs w wr ∧
                (∀ (q : Nat) (x : E), l[q]? = some x → x.In wr) ∧ (∀ (q : Nat) (x : E), l[q]? = some x → ∃ ad vx, ao2 = some ad ∧ B2 ≤ ad.block ∧ wr.cell? (ad.add q) = some vx ∧ EVn bs wr x vx)) ∧ Hid (r = E.walkL st (l.drop j) j way sj))
              case atStart => exact ⟨0, s1, rfl, by omega, hB2, Lib.hid ⟨H2.out.1, H2.out.2.1, H2.out.2.2.1, H2.out.2.2.2.2.1, H2.out.2.2.2.2.2.1, fun q x hq => (E.InL.at_ Hll.out hq).2, H2.out.2.2.2.2.2.2⟩, Lib.hid Hr.out.symm⟩
              case round =>
                obtain ⟨j, sj, rfl, hj, hBr, H3, hinv⟩ := hrel
                clear H2 hB2 Hr Hll
                by_cases hlt : j < l.length
                · obtain ⟨x, ex⟩ : ∃ x, l[j]? = some x := ⟨_, List.getElem?_eq_getElem hlt⟩
                  obtain ⟨ad, vx, rfl, hadB, hcell, hev⟩ := H3.out.2.2.2.2.2.2 j x ex
                  have hLx := hL.out j x ex
                  have hN : Calls Tryz.prog 92 #[.int .i64 j, vx, .pointer (some ⟨w.heap.size, 0, none⟩), .pointer (some ⟨w.heap.size + 1, 0, none⟩)] wr (Goes st P bs chain wr (x.walk st (way ++ [(j : Int)]) sj)) := 
                    next_any (st := st) (bs := bs) (F := F) (caps := caps) (chain := chain) HD.out.stays (fun k hm => (HD.out.hbs k hm).2) x j ao c way sj vx w.heap.size (w.heap.size + 1) wr (H3.out.2.2.2.2.2.1 j x ex) H3.out.2.2.2.1 hev H3.out.2.2.1 (by have := E.size_pos x; omega) hBr hB (by omega)
                      H3.out.1 H3.out.2.1
                      (fun ao' c' w' hp hin hv' hw' hB' => by
                        have := Hih.out x (way ++ [(j : Int)]) ao' c' sj vx w' hLx.1 (by simp; omega) hin hLx.2.2.1 hLx.2.2.2 hp hv' hw' hB'
                        rw [List.length_append] at this
                        exact this)
                  have HN := Lib.hid hN
                  have hst := hinv.out
                  rw [drop_of_get ex, E.walkL] at hst
                  have hd1 := H3.out.2.1.cell 0
                  have hsm : ∀ w3 s3, Kept bs wr w3 → P s3 w3 → B2 ≤ w3.heap.size ∧ Hid (Blk w3 w.heap.size 49 #[.slice ao way.length c] ∧ Blk w3 (w.heap.size + 1) 78 #[.func (.func F) #[] caps] ∧ Way B2 w3 ao c way ∧ P s3 w3 ∧ Kept bs w w3 ∧
                      (∀ (q : Nat) (x : E), l[q]? = some x → x.In w3) ∧ (∀ (q : Nat) (x : E), l[q]? = some x → ∃ ad' vx, some ad = some ad' ∧ B2 ≤ ad'.block ∧ w3.cell? (ad'.add q) = some vx ∧ EVn bs w3 x vx)) := fun w3 s3 hk hp => by
                    have hbs := HD.out.hbs
                    have hbel := hk.below (B := B) (Nat.le_trans HD.out.hB hBr) (fun k hm => (hbs _ hm).1)
                    refine ⟨Nat.le_trans hBr hk.size, Lib.hid ⟨H3.out.1.kept hk (fun hm => by have := hbs _ hm; omega), H3.out.2.1.kept hk (fun hm => by have := hbs _ hm; omega), H3.out.2.2.1.kept hk (fun k hm => (hbs _ hm).2), hp, H3.out.2.2.2.2.1.trans hk, fun q y hq => (H3.out.2.2.2.2.2.1 q y hq).below' hbel (hL.out q y hq).2.2.1, fun q y hq => ?_⟩⟩
                    obtain ⟨ad', vy, e1, e2, e3, e4⟩ := H3.out.2.2.2.2.2.2 q y hq
                    exact ⟨ad', vy, e1, e2, hk.cell (fun hm => by have := hbs _ hm; rw [block_of_add] at this; omega) e3, e4.kept hk⟩
                  have Hsm := Lib.hid hsm
                  have Hk0 := Lib.hid H3.out.2.2.2.2.1
                  clear hN hev hsm ex H3 hinv Hih hL hLx HD He Hv Hb
                  generalize x.walk st (way ++ [(j : Int)]) sj = rx at *
                  obtain ⟨s2, m2⟩ := rx
                  rcases m2 with _ | _ | m2
                  · rw [if_pos rfl] at hst
                    have Hst := Lib.hid hst
                    clear hst
                    go_wp2_with fail
                    refine HN.out.mono ?_
                    rintro en w3 ⟨hk3, he3, hp3⟩
                    have he3' : en = .returned (.bool true) := he3
                    clear he3
                    subst he3'
                    have H4 := Lib.hid (Hsm.out w3 s2 hk3 hp3)
                    clear hk3 hp3 HN hcell hd1 Hsm
                    go_wp2_with fail
                    go_roundg (gk - 1)
                    case measure => omega
                    case rel => exact ⟨j + 1, s2, by go_num, by omega, H4.out.1, H4.out.2, Hst⟩
                  · rw [if_neg (by simp)] at hst
                    subst hst
                    go_wp2_with fail
                    refine HN.out.mono ?_
                    rintro en w3 ⟨hk3, he3, hp3⟩
                    have he3' : en = .returned (.bool false) := he3
                    clear he3
                    subst he3'
                    have H4 := Lib.hid (And.intro (Hk0.out.trans hk3) hp3)
                    clear hk3 hp3 HN hcell hd1 Hsm
                    go_wp2_with fail
                    go_ret
                    exact ⟨H4.out.1, rfl, H4.out.2⟩
                  · rw [if_neg (by simp)] at hst
                    subst hst
                    go_wp2_with fail
                    refine HN.out.mono ?_
                    rintro en w3 ⟨hk3, he3, hp3⟩
                    have he3' : en = .panicked chain := he3
                    clear he3
                    subst he3'
                    exact ⟨rfl, Hk0.out.trans hk3, rfl, hp3⟩
                · have hst := hinv.out
                  rw [List.drop_eq_nil_of_le (by omega), E.walkL] at hst
                  subst hst
                  have H4 := Lib.hid (And.intro H3.out.2.2.2.2.1 H3.out.2.2.2.1)
                  clear H3 hinv Hih hL HD He Hv Hb
                  go_wp2_with fail
                  go_ret
                  exact ⟨H4.out.1, rfl, H4.out.2⟩
            · have hl := E.right_leaf hr h3 h4 h8
              obtain ⟨t4, t5⟩ := EV.leaf H1.out.2.2.1.1 He.out.2.2.2.2.2 (E.right_ok hr) h3 h4 h8
              have hq := Hr.out
              rw [hl, E.walkL] at hq
              subst hq
              clear hl Hr
              go_wp2_with fail
              go_ret
              exact ⟨H1.out.2.2.2.2.2.2, rfl, H1.out.2.2.2.2.2.1⟩
      · rw [if_neg (by simp)]
        go_enter Tryz.func56, Tryz.ntmps56
        go_wp2_with fail
        refine Hdo.out.mono ?_
        rintro en w1 ⟨hk1, he1, hp1⟩
        have he1' : en = .returned (.bool false) := he1
        clear he1
        subst he1'
        have H1 := Lib.hid (And.intro (HKb.out _ hk1) hp1)
        clear hk1 hp1
        go_wp2_with fail
        go_ret
        exact ⟨H1.out.1, rfl, H1.out.2⟩
      · rw [if_neg (by simp)]
        go_enter Tryz.func56, Tryz.ntmps56
        go_wp2_with fail
        refine Hdo.out.mono ?_
        rintro en w1 ⟨hk1, he1, hp1⟩
        have he1' : en = .panicked chain := he1
        clear he1
        subst he1'
        exact ⟨rfl, HKb.out _ hk1, rfl, hp1⟩
end Go.Proofs.YtbhmeapnmpgggaaGreatDoor
