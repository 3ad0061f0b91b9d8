/- says of layer 35: the walk. Conditions: both errors lie in the world. -/
import Derived.Test.YtbhmeapnmpgggaaGreatDoorREqE
import Derived.Test.YtbhmeapnmpgggaaGreatDoorLikeIs2
import Derived.Test.YtbhmeapnmpgggaaGreatDoorSame1E
import Derived.Test.YtbhmeapnmpgggaaGreatDoorLoads
import Derived.Test.YtbhmeapnmpgggaaGreatDoorIs4
namespace Go.Proofs.YtbhmeapnmpgggaaGreatDoor
open Go.RowKit Go.Joins

set_option maxHeartbeats 4000000 in
set_option maxRecDepth 100000 in
theorem saysR_any (e t : E) (w : World) (he : e.In w) :
    Calls Tryz.prog 94 #[e.v, t.v] w (Ret (.bool (decide (e.k = 8) && e.saysC t)) w) := by
  have hW : ∀ W, W = ((w.alloc (.cells e.cs.toArray 29)).alloc (.cells t.cs.toArray 29)) → Blk W w.heap.size 29 e.cs.toArray ∧ Blk W (w.heap.size + 1) 29 t.cs.toArray ∧ Below w.heap.size w W := fun W h => by
    subst h
    exact ⟨(Blk.new _ _ _).alloc _, Blk.new' (by simp) _ _, two_alloc _ _ _⟩
  have HW := Lib.hid hW
  have HC : Hid (∀ q x, e.codes[q]? = some x → ∃ ad, e.cA = some ad ∧ w.cell? (ad.add q) = some (.int .i64 x)) := Lib.hid he.cod
  have Hs : Hid (e.saysC t = (decide (t.k = 1 ∨ t.k = 10) && decide (t.code ∈ e.codes))) := Lib.hid rfl
  have hr := he.rng
  obtain ⟨_, _, _, _, hr5, hr6, hr7, hr8, hr9, _⟩ := hr
  clear hW he
  generalize e.saysC t = r at *
  simp only [E.v, E.cs] at HW ⊢
  generalize hla : e.codes.length = la at *
  have HL := Lib.hid hla
  clear hla
  generalize e.k = f0, e.id = f1, e.code = f2, e.t = f3, e.body.k = f4, e.body.i = f5, e.body.b = f6, e.body.t = f7, e.body.A = f8, e.body.l.length = f9, e.body.c = f10, e.cA = f11, e.cc = f13, e.A = f14, e.l.length = f15, e.c = f16 at *
  generalize t.k = g0, t.id = g1, t.code = g2, t.t = g3, t.body.k = g4, t.body.i = g5, t.body.b = g6, t.body.t = g7, t.body.A = g8, t.body.l.length = g9, t.body.c = g10, t.cA = g11, t.codes.length = g12, t.cc = g13, t.A = g14, t.l.length = g15, t.c = g16 at *
  by_cases h8 : f0 = 8
  · subst h8
    by_cases hg : g0 = 1 ∨ g0 = 10
    · have hrr : r = decide (g2 ∈ e.codes) := by rw [Hs.out, decide_eq_true hg, Bool.true_and]
      have HR := Lib.hid hrr
      clear hrr Hs
      rcases hg with rfl | rfl
      all_goals
        go_enter Tryz.func94, Tryz.ntmps94
        go_upto_region 1 with fail
        obtain ⟨b1, b2, b3⟩ := HW.out _ rfl
        clear HW
        generalize (w.alloc _).alloc _ = W at *
        have c0 := b1.cell 0
        have d0 := b2.cell 0
        have d2 := b2.cell 2
        have c9 := b1.cell 9
        simp at c0 d0 d2 c9
        have hz := b2.lt
        have Hb := Lib.hid b3
        clear b1 b2 b3
        go_wp2_with fail
        go_loopg [23] la (fun gk s wr => ∃ j : Nat, s = .int .i64 j ∧ j + gk = la ∧ Below W.heap.size W wr ∧ Hid (∀ q, q < j → e.codes[q]? ≠ some g2))
        case atStart => exact ⟨0, rfl, by omega, Below.refl _ _, Lib.hid (fun q h => by omega)⟩
        case round =>
          obtain ⟨j, rfl, hj, hbel, hinv⟩ := hrel
          have q2 := (hbel.cell (p := ⟨w.heap.size + 1, 2, none⟩) hz).trans d2
          have q9 := (hbel.cell (p := ⟨w.heap.size, 9, none⟩) (Nat.lt_of_succ_lt hz)).trans c9
          by_cases hlt : j < la
          · obtain ⟨x, ex⟩ : ∃ x, e.codes[j]? = some x := ⟨_, List.getElem?_eq_getElem (by rw [HL.out]; exact hlt)⟩
            obtain ⟨ad, rfl, hx⟩ := HC.out j x ex
            have hbel2 := Hb.out.trans (hbel.mono Hb.out.size)
            have hx1 : wr.cell? (ad.add j) = some (.int .i64 x) := (hbel2.cell (lt_of_cell hx)).trans hx
            have hbelH := Lib.hid (And.intro hbel hbel2)
            have hex := Lib.hid ex
            clear hbel hbel2 hx ex
            by_cases hxy : x = g2
            · subst hxy
              have hq : r = true := by rw [HR.out, decide_eq_true (List.mem_of_getElem? hex.out)]
              subst hq
              go_wp2_with fail
              go_wp2_with fail
              go_ret
              exact ⟨rfl, hbelH.out.2⟩
            · have hn := Lib.hid (show ∀ q, q < j + 1 → e.codes[q]? ≠ some g2 from fun q hq => by
                by_cases h : q < j
                · exact hinv.out q h
                · have : q = j := by omega
                  subst this
                  rw [hex.out]
                  simpa using hxy)
              go_wp2_with fail
              go_wp2_with fail
              go_roundg (gk - 1)
              case measure => omega
              case rel => exact ⟨j + 1, by go_num, by omega, hbelH.out.1, hn⟩
          · have hbel2 := Lib.hid (Hb.out.trans (hbel.mono Hb.out.size))
            have hq : r = false := by
              rw [HR.out, decide_eq_false]
              intro h
              obtain ⟨q, hq, h⟩ := List.getElem_of_mem h
              exact hinv.out q (by have := HL.out; omega) (by rw [List.getElem?_eq_getElem hq, h])
            subst hq
            go_wp2_with fail
            go_ret
            exact ⟨rfl, hbel2.out⟩
    · have hrr : r = false := by rw [Hs.out, decide_eq_false hg, Bool.false_and]
      subst hrr
      have hg1 : (g0 != 1) = true := by simp; omega
      have hg2 : (g0 != 10) = true := by simp; omega
      clear Hs hg
      go_enter Tryz.func94, Tryz.ntmps94
      go_upto_region 1 with fail
      obtain ⟨b1, b2, b3⟩ := HW.out _ rfl
      clear HW
      generalize (w.alloc _).alloc _ = W at *
      have c0 := b1.cell 0
      have d0 := b2.cell 0
      simp at c0 d0
      have Hb := Lib.hid b3
      clear b1 b2 b3
      go_wp2_with fail
      go_ret
      exact ⟨rfl, Hb.out⟩
  · have hrr : (decide (f0 = 8) && r) = false := by rw [decide_eq_false h8]; rfl
    rw [hrr]
    have h81 : (f0 != 8) = true := by simpa using h8
    clear Hs hrr
    go_enter Tryz.func94, Tryz.ntmps94
    go_upto_region 1 with fail
    obtain ⟨b1, b2, b3⟩ := HW.out _ rfl
    clear HW
    generalize (w.alloc _).alloc _ = W at *
    have c0 := b1.cell 0
    simp at c0
    have Hb := Lib.hid b3
    clear b1 b2 b3
    go_wp2_with fail
    go_ret
    exact ⟨rfl, Hb.out⟩
end Go.Proofs.YtbhmeapnmpgggaaGreatDoor
/- is, Is of layer 35: the walks. Conditions: both errors lie in the world and are right. -/
namespace Go.Proofs.YtbhmeapnmpgggaaGreatDoor
open Go.RowKit Go.Joins

mutual
/-- what is is: found, and whether it panics -/
def E.ris (bq : D → D → Bool × Bool) (t : E) : E → Bool × Bool
  | .mk k id code tt body cA cc codes A c l => if k = 0 then (false, false) else
    if t.k ≠ 6 ∧ ((E.eqr bq (.mk k id code tt body cA cc codes A c l) t).1 || (E.eqr bq (.mk k id code tt body cA cc codes A c l) t).2) then E.eqr bq (.mk k id code tt body cA cc codes A c l) t else
    if (decide (k = 8) && (E.mk k id code tt body cA cc codes A c l).saysC t) then (true, false) else E.risL bq t l
def E.risL (bq : D → D → Bool × Bool) (t : E) : List E → Bool × Bool
  | [] => (false, false)
  | x :: l => if ((E.ris bq t x).1 || (E.ris bq t x).2) then E.ris bq t x else E.risL bq t l
end
theorem E.ris_eq (bq : D → D → Bool × Bool) (t e : E) : E.ris bq t e = if e.k = 0 then (false, false) else
    if t.k ≠ 6 ∧ ((E.eqr bq e t).1 || (E.eqr bq e t).2) then E.eqr bq e t else if (decide (e.k = 8) && e.saysC t) then (true, false) else E.risL bq t e.l := by
  cases e; rw [E.ris]; rfl


theorem idx_e (ad : Addr) (L c : Nat) (j : Nat) (h : j < L) (o : Oper) (a : Act) (ho : o.op = .indexAddr 27 (.tmp 41) (.tmp 42)) (h1 : a.eval (.tmp 41) = .slice (some ad) L c) (h2 : a.eval (.tmp 42) = .int .i64 j) (w : World) :
    (execOp a.eval o).run Tryz.prog w = .ok (.value (.pointer (some (ad.add (j * 11))))) w := by
  have hel : Tryz.prog.elem 27 = 29 := by kernel_rfl
  have hu : Tryz.prog.underlying 27 = some (.slice (Tryz.prog.elem 27)) := by kernel_rfl
  have hs : (Tryz.prog.info? 29).map (·.size) = some 11 := by kernel_rfl
  unfold execOp
  simp only [ho, h1, h2]
  cases hq : Tryz.prog.info? 29 with
  | none => simp [hq] at hs
  | some i =>
    have hz : i.size = 11 := by simpa [hq] using hs
    simp only [Sem.run_bind, run_indexAt_slice (P := Tryz.prog) _ _ _ _ _ _ _ hu, hel, sizeOf, typeInfo]
    rw [if_pos (by omega)]
    simp [hq, hz]

set_option maxHeartbeats 1000000 in
set_option maxRecDepth 100000 in
theorem isR_step (n : Nat) (e t : E) (w : World) (hn : E.sizeL e.l ≤ n) (he : e.In w) (ht : t.In w) (her : e.right = true) (htr : t.right = true) (h0 : e.k ≠ 0)
    (ih : ∀ (x : E) (w : World), x.size ≤ n → x.In w → t.In w → x.right = true → Calls Tryz.prog 58 #[x.v, t.v] w (ReqP (E.ris D.req t x) w)) :
    Calls Tryz.prog 58 #[e.v, t.v] w (ReqP (E.ris D.req t e) w) := by
  have hEq := Lib.hid (fun W (h : Below w.heap.size w W) => reqE_any e t W (he.below h) (ht.below h) her htr)
  have hSy := Lib.hid (fun W (h : Below w.heap.size w W) => saysR_any e t W (he.below h))
  have hIh := Lib.hid (fun W x (h : Below w.heap.size w W) (hx : x.size ≤ n ∧ x.In w ∧ x.right = true) => ih x W hx.1 (hx.2.1.below h) (ht.below h) hx.2.2)
  have HEa : Hid (∀ q x, e.l[q]? = some x → (∃ ad, e.A = some ad ∧ At w (ad.add (q * 11)) x.cs) ∧ (x.size ≤ n ∧ x.In w ∧ x.right = true)) := Lib.hid fun q x h => ⟨(he.at_ h).1, Nat.le_trans (E.sizeL_le h) hn, (he.at_ h).2, (E.rightL_at (E.right_list her) h).2⟩
  have hr := E.ris_eq D.req t e
  rw [if_neg h0] at hr
  have Hr := Lib.hid hr
  have hW : ∀ W, W = ((w.alloc (.cells e.cs.toArray 29)).alloc (.cells t.cs.toArray 29)) → Blk W w.heap.size 29 e.cs.toArray ∧ Blk W (w.heap.size + 1) 29 t.cs.toArray ∧ Below w.heap.size w W := fun W h => by
    subst h
    exact ⟨(Blk.new _ _ _).alloc _, Blk.new' (by simp) _ _, two_alloc _ _ _⟩
  have HW := Lib.hid hW
  have hrg := he.rng
  obtain ⟨_, _, _, _, hr5, hr6, hr7, hr8, hr9, _⟩ := hrg
  clear hW hn he ht her htr ih hr
  generalize E.ris D.req t e = r at *
  generalize E.eqr D.req e t = q at *
  generalize (decide (e.k = 8) && e.saysC t) = sy at *
  simp only [E.v, E.cs] at HW hEq hSy hIh ⊢
  generalize e.l = l at *
  generalize e.k = f0, e.id = f1, e.code = f2, e.t = f3, e.body.k = f4, e.body.i = f5, e.body.b = f6, e.body.t = f7, e.body.A = f8, e.body.l.length = f9, e.body.c = f10, e.cA = f11, e.codes.length = f12, e.cc = f13, e.A = f14, e.c = f16 at *
  generalize ht6 : t.k = g0 at *
  generalize t.id = g1, t.code = g2, t.t = g3, t.body.k = g4, t.body.i = g5, t.body.b = g6, t.body.t = g7, t.body.A = g8, t.body.l.length = g9, t.body.c = g10, t.cA = g11, t.codes.length = g12, t.cc = g13, t.A = g14, t.l.length = g15, t.c = g16 at *
  have Ht6 := Lib.hid ht6
  clear ht6
  have h0' : (f0 == 0) = false := by simpa using h0
  clear h0
  by_cases h6 : g0 = 6
  · subst h6
    clear hEq
    go_enter Tryz.func58, Tryz.ntmps58
    go_upto_region 1 with fail
    obtain ⟨b1, b2, b3⟩ := HW.out _ rfl
    clear HW
    generalize (w.alloc _).alloc _ = W at *
    have c0 := b1.cell 0
    have d0 := b2.cell 0
    have c1 := b1.cell 1
    have d1 := b2.cell 1
    have c2 := b1.cell 2
    have d2 := b2.cell 2
    have c3 := b1.cell 3
    have d3 := b2.cell 3
    have c4 := b1.cell 4
    have d4 := b2.cell 4
    have c5 := b1.cell 5
    have d5 := b2.cell 5
    have c6 := b1.cell 6
    have d6 := b2.cell 6
    have c7 := b1.cell 7
    have d7 := b2.cell 7
    have c8 := b1.cell 8
    have d8 := b2.cell 8
    have c9 := b1.cell 9
    have d9 := b2.cell 9
    have c10 := b1.cell 10
    have d10 := b2.cell 10
    simp at c0 d0 c1 d1 c2 d2 c3 d3 c4 d4 c5 d5 c6 d6 c7 d7 c8 d8 c9 d9 c10 d10
    have hz := b2.lt
    have HB := Lib.hid (And.intro b1 (And.intro b2 b3))
    clear b1 b2 b3
    clear c0 d0 c1 d1 c2 d2 c3 d3 c4 d4 c5 d5 c6 d6 c7 d7 c8 d8 c9 d9 c10 d10
    obtain ⟨b1, b2, b3⟩ := HB.out
    have c0 := b1.cell 0
    have c1 := b1.cell 1
    have c2 := b1.cell 2
    have c3 := b1.cell 3
    have c4 := b1.cell 4
    have c5 := b1.cell 5
    have c6 := b1.cell 6
    have c7 := b1.cell 7
    have c8 := b1.cell 8
    have c9 := b1.cell 9
    have c10 := b1.cell 10
    have d0 := b2.cell 0
    have d1 := b2.cell 1
    have d2 := b2.cell 2
    have d3 := b2.cell 3
    have d4 := b2.cell 4
    have d5 := b2.cell 5
    have d6 := b2.cell 6
    have d7 := b2.cell 7
    have d8 := b2.cell 8
    have d9 := b2.cell 9
    have d10 := b2.cell 10
    simp at c0 c1 c2 c3 c4 c5 c6 c7 c8 c9 c10 d0 d1 d2 d3 d4 d5 d6 d7 d8 d9 d10
    clear b1 b2 b3
    go_wp2_with fail
    refine (hSy.out _ HB.out.2.2).mono ?_
    rintro en w3 ⟨rfl, hb⟩
    clear c0 d0 c1 d1 c2 d2 c3 d3 c4 d4 c5 d5 c6 d6 c7 d7 c8 d8 c9 d9 c10 d10
    have HC := Lib.hid (show Blk w3 w.heap.size 29 _ ∧ Blk w3 (w.heap.size + 1) 29 _ ∧ Below w.heap.size w w3 from ⟨HB.out.1.to hb, HB.out.2.1.to hb, HB.out.2.2.trans (hb.mono HB.out.2.2.size)⟩)
    clear hb
    cases sy
    · have c10 := HC.out.1.cell 10
      simp at c10
      go_wp2_with fail
      go_loopg [36] l.length (fun gk s wr => ∃ j : Nat, s = .int .i64 j ∧ j + gk = l.length ∧ Below w3.heap.size w3 wr ∧ Hid (E.risL D.req t (l.drop j) = r))
      case atStart => exact ⟨0, rfl, by omega, Below.refl _ _, by rw [Hr.out]; simp [Hid]⟩
      case round =>
        obtain ⟨j, rfl, hj, hbel, hinv⟩ := hrel
        have Hbel := Lib.hid hbel
        clear hbel c10
        by_cases hlt : j < l.length
        · obtain ⟨x, ex⟩ : ∃ x, l[j]? = some x := ⟨_, List.getElem?_eq_getElem hlt⟩
          obtain ⟨⟨ad, rfl, hx⟩, hxi⟩ := HEa.out j x ex
          have hst := Lib.hid (show E.risL D.req t (l.drop j) = if ((E.ris D.req t x).1 || (E.ris D.req t x).2) then E.ris D.req t x else E.risL D.req t (l.drop (j + 1)) by rw [drop_of_get ex, E.risL])
          have hall := HC.out.2.2.trans (Hbel.out.mono HC.out.2.2.size)
          have Hx := Lib.hid (fun W (h : Below wr.heap.size wr W) => (hx.below hall).below h)
          have Hc := Lib.hid (fun W (h : Below wr.heap.size wr W) => (((HC.out.1.to Hbel.out).to h).cell 10))
          have Ht := Lib.hid (fun W (h : Below wr.heap.size wr W) => (HC.out.2.1.to Hbel.out).to h)
          have Hall := Lib.hid hall
          have Hcall := Lib.hid (fun W (h : Below wr.heap.size wr W) => hIh.out W x (hall.trans (h.mono hall.size)) hxi)
          clear hall hx ex hxi
          generalize E.ris D.req t x = z at *
          simp at Hc
          go_wp2_with fail
          have uE := Tryz.underlying29
          have uS := Tryz.underlying27
          have sE : (Tryz.prog.info? 29).map (·.size) = some 11 := by kernel_rfl
          refine wp_region_each (by kernel_rfl) (by kernel_rfl) (fun done a w' => ∃ x9 x10 x39 x40 x41 x42 x43 x44 x45 x46 x47 x48, a = ⟨#[Value.agg #[Value.int IntKind.i64 f0, Value.int IntKind.i64 f1, Value.int IntKind.i64 f2, Value.string f3, Value.int IntKind.i64 f4, Value.int IntKind.i64 f5, Value.int IntKind.u64 f6, Value.string f7, Value.slice f8 f9 f10, Value.slice f11 f12 f13, Value.slice (some ad) l.length f16], Value.agg #[Value.int IntKind.i64 6, Value.int IntKind.i64 g1, Value.int IntKind.i64 g2, Value.string g3, Value.int IntKind.i64 g4, Value.int IntKind.i64 g5, Value.int IntKind.u64 g6, Value.string g7, Value.slice g8 g9 g10, Value.slice g11 g12 g13, Value.slice g14 g15 g16], Value.pointer (some ⟨w.heap.size, 0, none⟩), Value.pointer (some ⟨w.heap.size + 1, 0, none⟩), u4, u5, undef, undef, Value.int IntKind.i64 ↑j, x9, x10, Value.pointer (some ⟨w.heap.size, 0, none⟩), Value.int IntKind.i64 f0, Value.bool false, Value.pointer (some ⟨w.heap.size + 1, 0, none⟩), Value.int IntKind.i64 6, Value.bool false, undef, undef, undef, undef, undef, undef, undef, undef, undef, undef, undef, undef, undef, Value.agg #[Value.int IntKind.i64 f0, Value.int IntKind.i64 f1, Value.int IntKind.i64 f2, Value.string f3, Value.int IntKind.i64 f4, Value.int IntKind.i64 f5, Value.int IntKind.u64 f6, Value.string f7, Value.slice f8 f9 f10, Value.slice f11 f12 f13, Value.slice (some ad) l.length f16], Value.agg #[Value.int IntKind.i64 6, Value.int IntKind.i64 g1, Value.int IntKind.i64 g2, Value.string g3, Value.int IntKind.i64 g4, Value.int IntKind.i64 g5, Value.int IntKind.u64 g6, Value.string g7, Value.slice g8 g9 g10, Value.slice g11 g12 g13, Value.slice g14 g15 g16], Value.bool false, Value.pointer (some ⟨w.heap.size, 10, none⟩), Value.slice (some ad) l.length f16, Value.int IntKind.i64 ↑l.length, Value.int IntKind.i64 ↑j, Value.bool true, Value.int IntKind.i64 ↑j, x39, x40, x41, x42, x43, x44, x45, x46, x47, x48, u49, u50, u51, u52, u53, u54, u55, u56], []⟩ ∧ Below wr.heap.size wr w' ∧ (done 0 = true → x40 = .pointer (some ⟨w.heap.size, 10, none⟩)) ∧ (done 1 = true → x41 = .slice (some ad) l.length f16) ∧ (done 2 = true → x42 = .int .i64 j) ∧ (done 3 = true → x43 = .pointer (some (ad.add (j * 11)))) ∧ (done 4 = true → x44 = .agg #[.int .i64 x.k, .int .i64 x.id, .int .i64 x.code, .string x.t, .int .i64 x.body.k, .int .i64 x.body.i, .int .u64 x.body.b, .string x.body.t, .slice x.body.A x.body.l.length x.body.c, .slice x.cA x.codes.length x.cc, .slice x.A x.l.length x.c]) ∧ (done 5 = true → x45 = .agg #[.int .i64 6, .int .i64 g1, .int .i64 g2, .string g3, .int .i64 g4, .int .i64 g5, .int .u64 g6, .string g7, .slice g8 g9 g10, .slice g11 g12 g13, .slice g14 g15 g16]) ∧ (done 6 = true → x46 = .tuple #[.bool z.1, .int .i64 (if z.2 then 10 else 0)]) ∧ (done 7 = true → x39 = .tuple #[.bool z.1, .int .i64 (if z.2 then 10 else 0)]) ∧ (done 8 = true → x47 = .bool z.1) ∧ (done 9 = true → x48 = .int .i64 (if z.2 then 10 else 0)) ∧ (done 10 = true → x9 = .bool z.1) ∧ (done 11 = true → x10 = .int .i64 (if z.2 then 10 else 0))) ?_ ?_ ?_
          · refine ⟨_, _, _, _, _, _, _, _, _, _, _, _, rfl, (Below.refl _ _).drew, ?_⟩
            simp
          · refine ⟨?_, ?_, ?_, ?_, ?_, ?_, ?_, ?_, ?_, ?_, ?_, ?_, trivial⟩
            · rintro done a wx hd he ⟨x9, x10, x39, x40, x41, x42, x43, x44, x45, x46, x47, x48, rfl, hB, i0, i1, i2, i3, i4, i5, i6, i7, i8, i9, i10, i11⟩ K hK
              refine step_wp rfl (wp_value (.pointer (some ⟨w.heap.size, 10, none⟩)) (by kernel_rfl) ?_)
              exact hK _ _ ⟨x9, x10, x39, _, x41, x42, x43, x44, x45, x46, x47, x48, rfl, hB, fun _ => rfl, i1, i2, i3, i4, i5, i6, i7, i8, i9, i10, i11⟩
            · rintro done a wx hd he ⟨x9, x10, x39, x40, x41, x42, x43, x44, x45, x46, x47, x48, rfl, hB, i0, i1, i2, i3, i4, i5, i6, i7, i8, i9, i10, i11⟩ K hK
              simp [Region.binds] at he
              obtain rfl := i0 (by simp [he])
              refine step_wp rfl (wp_load_cell 27 _ rfl ⟨w.heap.size, 10, none⟩ rfl _ _ (Hc.out wx hB) uS rfl ?_)
              exact hK _ _ ⟨x9, x10, x39, _, _, x42, x43, x44, x45, x46, x47, x48, rfl, hB, fun _ => rfl, fun _ => rfl, i2, i3, i4, i5, i6, i7, i8, i9, i10, i11⟩
            · rintro done a wx hd he ⟨x9, x10, x39, x40, x41, x42, x43, x44, x45, x46, x47, x48, rfl, hB, i0, i1, i2, i3, i4, i5, i6, i7, i8, i9, i10, i11⟩ K hK
              refine step_wp rfl (wp_value (.int .i64 j) (by kernel_rfl) ?_)
              exact hK _ _ ⟨x9, x10, x39, x40, x41, _, x43, x44, x45, x46, x47, x48, rfl, hB, i0, i1, fun _ => rfl, i3, i4, i5, i6, i7, i8, i9, i10, i11⟩
            · rintro done a wx hd he ⟨x9, x10, x39, x40, x41, x42, x43, x44, x45, x46, x47, x48, rfl, hB, i0, i1, i2, i3, i4, i5, i6, i7, i8, i9, i10, i11⟩ K hK
              simp [Region.binds] at he
              obtain rfl := i1 (by simp [he])
              obtain rfl := i2 (by simp [he])
              refine step_wp rfl (wp_value (.pointer (some (ad.add (j * 11)))) (idx_e ad l.length f16 j hlt _ _ rfl rfl rfl wx) ?_)
              exact hK _ _ ⟨x9, x10, x39, x40, _, _, _, x44, x45, x46, x47, x48, rfl, hB, i0, fun _ => rfl, fun _ => rfl, fun _ => rfl, i4, i5, i6, i7, i8, i9, i10, i11⟩
            · rintro done a wx hd he ⟨x9, x10, x39, x40, x41, x42, x43, x44, x45, x46, x47, x48, rfl, hB, i0, i1, i2, i3, i4, i5, i6, i7, i8, i9, i10, i11⟩ K hK
              simp [Region.binds] at he
              obtain rfl := i3 (by simp [he])
              refine step_wp rfl (wp_load_at 29 _ rfl (ad.add (j * 11)) rfl _ _ (Hx.out wx hB) uE rfl sE ?_)
              exact hK _ _ ⟨x9, x10, x39, x40, x41, x42, _, _, x45, x46, x47, x48, rfl, hB, i0, i1, i2, fun _ => rfl, fun _ => rfl, i5, i6, i7, i8, i9, i10, i11⟩
            · rintro done a wx hd he ⟨x9, x10, x39, x40, x41, x42, x43, x44, x45, x46, x47, x48, rfl, hB, i0, i1, i2, i3, i4, i5, i6, i7, i8, i9, i10, i11⟩ K hK
              refine step_wp rfl (wp_load_row 29 _ rfl (w.heap.size + 1) rfl _ _ _ _ (Ht.out wx hB) uE rfl sE ?_)
              exact hK _ _ ⟨x9, x10, x39, x40, x41, x42, x43, x44, _, x46, x47, x48, rfl, hB, i0, i1, i2, i3, i4, fun _ => rfl, i6, i7, i8, i9, i10, i11⟩
            · rintro done a wx hd he ⟨x9, x10, x39, x40, x41, x42, x43, x44, x45, x46, x47, x48, rfl, hB, i0, i1, i2, i3, i4, i5, i6, i7, i8, i9, i10, i11⟩ K hK
              simp [Region.binds] at he
              obtain rfl := i4 (by simp [he])
              obtain rfl := i5 (by simp [he])
              refine step_wp rfl (wp_call (f := 58) (args := #[.agg #[.int .i64 x.k, .int .i64 x.id, .int .i64 x.code, .string x.t, .int .i64 x.body.k, .int .i64 x.body.i, .int .u64 x.body.b, .string x.body.t, .slice x.body.A x.body.l.length x.body.c, .slice x.cA x.codes.length x.cc, .slice x.A x.l.length x.c], .agg #[.int .i64 6, .int .i64 g1, .int .i64 g2, .string g3, .int .i64 g4, .int .i64 g5, .int .u64 g6, .string g7, .slice g8 g9 g10, .slice g11 g12 g13, .slice g14 g15 g16]]) (by kernel_rfl) (Hcall.out wx hB) ?_)
              rintro en w1 ⟨rfl, hb⟩
              exact ⟨_, rfl, hK _ _ ⟨x9, x10, x39, x40, x41, x42, x43, _, _, _, x47, x48, rfl, hB.trans (hb.mono hB.size), i0, i1, i2, i3, fun _ => rfl, fun _ => rfl, fun _ => rfl, i7, i8, i9, i10, i11⟩⟩
            · rintro done a wx hd he ⟨x9, x10, x39, x40, x41, x42, x43, x44, x45, x46, x47, x48, rfl, hB, i0, i1, i2, i3, i4, i5, i6, i7, i8, i9, i10, i11⟩ K hK
              simp [Region.binds] at he
              obtain rfl := i6 (by simp [he])
              refine step_wp rfl (wp_value (.tuple #[.bool z.1, .int .i64 (if z.2 then 10 else 0)]) (by kernel_rfl) ?_)
              exact hK _ _ ⟨x9, x10, _, x40, x41, x42, x43, x44, x45, _, x47, x48, rfl, hB, i0, i1, i2, i3, i4, i5, fun _ => rfl, fun _ => rfl, i8, i9, i10, i11⟩
            · rintro done a wx hd he ⟨x9, x10, x39, x40, x41, x42, x43, x44, x45, x46, x47, x48, rfl, hB, i0, i1, i2, i3, i4, i5, i6, i7, i8, i9, i10, i11⟩ K hK
              simp [Region.binds] at he
              obtain rfl := i7 (by simp [he])
              refine step_wp rfl (wp_value (.bool z.1) (by kernel_rfl) ?_)
              exact hK _ _ ⟨x9, x10, _, x40, x41, x42, x43, x44, x45, x46, _, x48, rfl, hB, i0, i1, i2, i3, i4, i5, i6, fun _ => rfl, fun _ => rfl, i9, i10, i11⟩
            · rintro done a wx hd he ⟨x9, x10, x39, x40, x41, x42, x43, x44, x45, x46, x47, x48, rfl, hB, i0, i1, i2, i3, i4, i5, i6, i7, i8, i9, i10, i11⟩ K hK
              simp [Region.binds] at he
              obtain rfl := i7 (by simp [he])
              refine step_wp rfl (wp_value (.int .i64 (if z.2 then 10 else 0)) (by kernel_rfl) ?_)
              exact hK _ _ ⟨x9, x10, _, x40, x41, x42, x43, x44, x45, x46, x47, _, rfl, hB, i0, i1, i2, i3, i4, i5, i6, fun _ => rfl, i8, fun _ => rfl, i10, i11⟩
            · rintro done a wx hd he ⟨x9, x10, x39, x40, x41, x42, x43, x44, x45, x46, x47, x48, rfl, hB, i0, i1, i2, i3, i4, i5, i6, i7, i8, i9, i10, i11⟩ K hK
              simp [Region.binds] at he
              obtain rfl := i8 (by simp [he])
              refine step_wp rfl (wp_value (.bool z.1) (by kernel_rfl) ?_)
              exact hK _ _ ⟨_, x10, x39, x40, x41, x42, x43, x44, x45, x46, _, x48, rfl, hB, i0, i1, i2, i3, i4, i5, i6, i7, fun _ => rfl, i9, fun _ => rfl, i11⟩
            · rintro done a wx hd he ⟨x9, x10, x39, x40, x41, x42, x43, x44, x45, x46, x47, x48, rfl, hB, i0, i1, i2, i3, i4, i5, i6, i7, i8, i9, i10, i11⟩ K hK
              simp [Region.binds] at he
              obtain rfl := i9 (by simp [he])
              refine step_wp rfl (wp_value (.int .i64 (if z.2 then 10 else 0)) (by kernel_rfl) ?_)
              exact hK _ _ ⟨x9, _, x39, x40, x41, x42, x43, x44, x45, x46, x47, _, rfl, hB, i0, i1, i2, i3, i4, i5, i6, i7, i8, fun _ => rfl, i10, fun _ => rfl⟩
          · rintro done a wx hd ⟨x9, x10, x39, x40, x41, x42, x43, x44, x45, x46, x47, x48, rfl, hB, i0, i1, i2, i3, i4, i5, i6, i7, i8, i9, i10, i11⟩
            have dd : ∀ j, j < 12 → done j = true := fun j h => hd j (by simpa using h)
            obtain rfl := i0 (dd 0 (by omega))
            obtain rfl := i1 (dd 1 (by omega))
            obtain rfl := i2 (dd 2 (by omega))
            obtain rfl := i3 (dd 3 (by omega))
            obtain rfl := i4 (dd 4 (by omega))
            obtain rfl := i5 (dd 5 (by omega))
            obtain rfl := i6 (dd 6 (by omega))
            obtain rfl := i7 (dd 7 (by omega))
            obtain rfl := i8 (dd 8 (by omega))
            obtain rfl := i9 (dd 9 (by omega))
            obtain rfl := i10 (dd 10 (by omega))
            obtain rfl := i11 (dd 11 (by omega))
            clear i0 i1 i2 i3 i4 i5 i6 i7 i8 i9 i10 i11 dd
            have Hf := Lib.hid (And.intro (Hbel.out.trans (hB.mono Hbel.out.size)) (Hall.out.trans (hB.mono Hall.out.size)))
            clear hB Hc Ht Hx Hcall uE uS sE
            obtain ⟨z1, z2⟩ := z
            cases z1
            · cases z2
              · have hnx := Lib.hid (show E.risL D.req t (l.drop (j + 1)) = r by rw [← hinv.out, hst.out]; rfl)
                go_wp2_with fail
                go_roundg (gk - 1)
                case measure => omega
                case rel => exact ⟨j + 1, by go_num, by omega, Hf.out.1, hnx⟩
              · have hrr : r = (false, true) := by rw [← hinv.out, hst.out]; rfl
                subst hrr
                go_wp2_with fail
                go_ret2
                exact .mk Hf.out.2 rfl rfl
            · have hrr : r = (true, z2) := by rw [← hinv.out, hst.out]; rfl
              subst hrr
              cases z2
              all_goals
                go_wp2_with fail
                go_ret2
                exact .mk Hf.out.2 rfl rfl
        · have hrr : r = (false, false) := by rw [← hinv.out, List.drop_eq_nil_of_le (by omega), E.risL]
          subst hrr
          have Hf := Lib.hid (HC.out.2.2.trans (Hbel.out.mono HC.out.2.2.size))
          have c10 := (HC.out.1.to Hbel.out).cell 10
          simp at c10
          go_wp2_with fail
          go_ret2
          exact .mk Hf.out rfl rfl
    · have hrr : r = (true, false) := by rw [Hr.out]; simp
      subst hrr
      go_wp2_with fail
      go_ret2
      exact .mk HC.out.2.2 rfl rfl
  · have h6' : (g0 != 6) = true := by simpa using h6
    by_cases hq : ((q.fst || q.snd) = true)
    · have hrr : r = q := by rw [Hr.out, if_pos ⟨h6, hq⟩]
      subst hrr
      clear h6
      go_enter Tryz.func58, Tryz.ntmps58
      go_upto_region 1 with fail
      obtain ⟨b1, b2, b3⟩ := HW.out _ rfl
      clear HW
      generalize (w.alloc _).alloc _ = W at *
      have c0 := b1.cell 0
      have d0 := b2.cell 0
      have c1 := b1.cell 1
      have d1 := b2.cell 1
      have c2 := b1.cell 2
      have d2 := b2.cell 2
      have c3 := b1.cell 3
      have d3 := b2.cell 3
      have c4 := b1.cell 4
      have d4 := b2.cell 4
      have c5 := b1.cell 5
      have d5 := b2.cell 5
      have c6 := b1.cell 6
      have d6 := b2.cell 6
      have c7 := b1.cell 7
      have d7 := b2.cell 7
      have c8 := b1.cell 8
      have d8 := b2.cell 8
      have c9 := b1.cell 9
      have d9 := b2.cell 9
      have c10 := b1.cell 10
      have d10 := b2.cell 10
      simp at c0 d0 c1 d1 c2 d2 c3 d3 c4 d4 c5 d5 c6 d6 c7 d7 c8 d8 c9 d9 c10 d10
      have hz := b2.lt
      have HB := Lib.hid (And.intro b1 (And.intro b2 b3))
      clear b1 b2 b3
      go_wp2_with fail
      refine (hEq.out _ HB.out.2.2).mono ?_
      rintro en w2 ⟨rfl, hb⟩
      have Hf := Lib.hid (HB.out.2.2.trans (hb.mono HB.out.2.2.size))
      clear hb c0 d0 c1 d1 c2 d2 c3 d3 c4 d4 c5 d5 c6 d6 c7 d7 c8 d8 c9 d9 c10 d10
      obtain ⟨q1, q2⟩ := r
      cases q1
      · cases q2
        · exact absurd hq (by simp)
        · go_wp2_with fail
          go_ret2
          exact .mk Hf.out rfl rfl
      · cases q2
        all_goals
          go_wp2_with fail
          go_ret2
          exact .mk Hf.out rfl rfl
    · obtain ⟨q1, q2⟩ := q
      obtain ⟨rfl, rfl⟩ : q1 = false ∧ q2 = false := by simpa using hq
      clear h6
      go_enter Tryz.func58, Tryz.ntmps58
      go_upto_region 1 with fail
      obtain ⟨b1, b2, b3⟩ := HW.out _ rfl
      clear HW
      generalize (w.alloc _).alloc _ = W at *
      have c0 := b1.cell 0
      have d0 := b2.cell 0
      have c1 := b1.cell 1
      have d1 := b2.cell 1
      have c2 := b1.cell 2
      have d2 := b2.cell 2
      have c3 := b1.cell 3
      have d3 := b2.cell 3
      have c4 := b1.cell 4
      have d4 := b2.cell 4
      have c5 := b1.cell 5
      have d5 := b2.cell 5
      have c6 := b1.cell 6
      have d6 := b2.cell 6
      have c7 := b1.cell 7
      have d7 := b2.cell 7
      have c8 := b1.cell 8
      have d8 := b2.cell 8
      have c9 := b1.cell 9
      have d9 := b2.cell 9
      have c10 := b1.cell 10
      have d10 := b2.cell 10
      simp at c0 d0 c1 d1 c2 d2 c3 d3 c4 d4 c5 d5 c6 d6 c7 d7 c8 d8 c9 d9 c10 d10
      have hz := b2.lt
      have HB := Lib.hid (And.intro b1 (And.intro b2 b3))
      clear b1 b2 b3
      go_wp2_with fail
      refine (hEq.out _ HB.out.2.2).mono ?_
      rintro en w2 ⟨rfl, hb⟩
      have HD := Lib.hid (show Blk w2 w.heap.size 29 _ ∧ Blk w2 (w.heap.size + 1) 29 _ ∧ Below w.heap.size w w2 from ⟨HB.out.1.to hb, HB.out.2.1.to hb, HB.out.2.2.trans (hb.mono HB.out.2.2.size)⟩)
      clear hb c0 d0 c1 d1 c2 d2 c3 d3 c4 d4 c5 d5 c6 d6 c7 d7 c8 d8 c9 d9 c10 d10
      obtain ⟨b1, b2, b3⟩ := HD.out
      have c0 := b1.cell 0
      have c1 := b1.cell 1
      have c2 := b1.cell 2
      have c3 := b1.cell 3
      have c4 := b1.cell 4
      have c5 := b1.cell 5
      have c6 := b1.cell 6
      have c7 := b1.cell 7
      have c8 := b1.cell 8
      have c9 := b1.cell 9
      have c10 := b1.cell 10
      have d0 := b2.cell 0
      have d1 := b2.cell 1
      have d2 := b2.cell 2
      have d3 := b2.cell 3
      have d4 := b2.cell 4
      have d5 := b2.cell 5
      have d6 := b2.cell 6
      have d7 := b2.cell 7
      have d8 := b2.cell 8
      have d9 := b2.cell 9
      have d10 := b2.cell 10
      simp at c0 c1 c2 c3 c4 c5 c6 c7 c8 c9 c10 d0 d1 d2 d3 d4 d5 d6 d7 d8 d9 d10
      clear b1 b2 b3
      go_wp2_with fail
      refine (hSy.out _ HD.out.2.2).mono ?_
      rintro en w3 ⟨rfl, hb⟩
      clear c0 d0 c1 d1 c2 d2 c3 d3 c4 d4 c5 d5 c6 d6 c7 d7 c8 d8 c9 d9 c10 d10
      have HC := Lib.hid (show Blk w3 w.heap.size 29 _ ∧ Blk w3 (w.heap.size + 1) 29 _ ∧ Below w.heap.size w w3 from ⟨HD.out.1.to hb, HD.out.2.1.to hb, HD.out.2.2.trans (hb.mono HD.out.2.2.size)⟩)
      clear hb
      cases sy
      · have c10 := HC.out.1.cell 10
        simp at c10
        go_wp2_with fail
        go_loopg [36] l.length (fun gk s wr => ∃ j : Nat, s = .int .i64 j ∧ j + gk = l.length ∧ Below w3.heap.size w3 wr ∧ Hid (E.risL D.req t (l.drop j) = r))
        case atStart => exact ⟨0, rfl, by omega, Below.refl _ _, by rw [Hr.out]; simp [Hid]⟩
        case round =>
          obtain ⟨j, rfl, hj, hbel, hinv⟩ := hrel
          have Hbel := Lib.hid hbel
          clear hbel c10
          by_cases hlt : j < l.length
          · obtain ⟨x, ex⟩ : ∃ x, l[j]? = some x := ⟨_, List.getElem?_eq_getElem hlt⟩
            obtain ⟨⟨ad, rfl, hx⟩, hxi⟩ := HEa.out j x ex
            have hst := Lib.hid (show E.risL D.req t (l.drop j) = if ((E.ris D.req t x).1 || (E.ris D.req t x).2) then E.ris D.req t x else E.risL D.req t (l.drop (j + 1)) by rw [drop_of_get ex, E.risL])
            have hall := HC.out.2.2.trans (Hbel.out.mono HC.out.2.2.size)
            have Hx := Lib.hid (fun W (h : Below wr.heap.size wr W) => (hx.below hall).below h)
            have Hc := Lib.hid (fun W (h : Below wr.heap.size wr W) => (((HC.out.1.to Hbel.out).to h).cell 10))
            have Ht := Lib.hid (fun W (h : Below wr.heap.size wr W) => (HC.out.2.1.to Hbel.out).to h)
            have Hall := Lib.hid hall
            have Hcall := Lib.hid (fun W (h : Below wr.heap.size wr W) => hIh.out W x (hall.trans (h.mono hall.size)) hxi)
            clear hall hx ex hxi
            generalize E.ris D.req t x = z at *
            simp at Hc
            go_wp2_with fail
            have uE := Tryz.underlying29
            have uS := Tryz.underlying27
            have sE : (Tryz.prog.info? 29).map (·.size) = some 11 := by kernel_rfl
            refine wp_region_each (by kernel_rfl) (by kernel_rfl) (fun done a w' => ∃ x9 x10 x39 x40 x41 x42 x43 x44 x45 x46 x47 x48, a = ⟨#[Value.agg #[Value.int IntKind.i64 f0, Value.int IntKind.i64 f1, Value.int IntKind.i64 f2, Value.string f3, Value.int IntKind.i64 f4, Value.int IntKind.i64 f5, Value.int IntKind.u64 f6, Value.string f7, Value.slice f8 f9 f10, Value.slice f11 f12 f13, Value.slice (some ad) l.length f16], Value.agg #[Value.int IntKind.i64 g0, Value.int IntKind.i64 g1, Value.int IntKind.i64 g2, Value.string g3, Value.int IntKind.i64 g4, Value.int IntKind.i64 g5, Value.int IntKind.u64 g6, Value.string g7, Value.slice g8 g9 g10, Value.slice g11 g12 g13, Value.slice g14 g15 g16], Value.pointer (some ⟨w.heap.size, 0, none⟩), Value.pointer (some ⟨w.heap.size + 1, 0, none⟩), u4, u5, Value.bool false, Value.int IntKind.i64 0, Value.int IntKind.i64 ↑j, x9, x10, Value.pointer (some ⟨w.heap.size, 0, none⟩), Value.int IntKind.i64 f0, Value.bool false, Value.pointer (some ⟨w.heap.size + 1, 0, none⟩), Value.int IntKind.i64 g0, Value.bool true, Value.tuple #[Value.bool false, Value.int IntKind.i64 0], Value.agg #[Value.int IntKind.i64 f0, Value.int IntKind.i64 f1, Value.int IntKind.i64 f2, Value.string f3, Value.int IntKind.i64 f4, Value.int IntKind.i64 f5, Value.int IntKind.u64 f6, Value.string f7, Value.slice f8 f9 f10, Value.slice f11 f12 f13, Value.slice (some ad) l.length f16], Value.agg #[Value.int IntKind.i64 g0, Value.int IntKind.i64 g1, Value.int IntKind.i64 g2, Value.string g3, Value.int IntKind.i64 g4, Value.int IntKind.i64 g5, Value.int IntKind.u64 g6, Value.string g7, Value.slice g8 g9 g10, Value.slice g11 g12 g13, Value.slice g14 g15 g16], Value.tuple #[Value.bool false, Value.int IntKind.i64 0], Value.bool false, Value.int IntKind.i64 0, Value.bool false, Value.bool false, Value.int IntKind.i64 0, Value.bool false, Value.bool false, undef, undef, Value.agg #[Value.int IntKind.i64 f0, Value.int IntKind.i64 f1, Value.int IntKind.i64 f2, Value.string f3, Value.int IntKind.i64 f4, Value.int IntKind.i64 f5, Value.int IntKind.u64 f6, Value.string f7, Value.slice f8 f9 f10, Value.slice f11 f12 f13, Value.slice (some ad) l.length f16], Value.agg #[Value.int IntKind.i64 g0, Value.int IntKind.i64 g1, Value.int IntKind.i64 g2, Value.string g3, Value.int IntKind.i64 g4, Value.int IntKind.i64 g5, Value.int IntKind.u64 g6, Value.string g7, Value.slice g8 g9 g10, Value.slice g11 g12 g13, Value.slice g14 g15 g16], Value.bool false, Value.pointer (some ⟨w.heap.size, 10, none⟩), Value.slice (some ad) l.length f16, Value.int IntKind.i64 ↑l.length, Value.int IntKind.i64 ↑j, Value.bool true, Value.int IntKind.i64 ↑j, x39, x40, x41, x42, x43, x44, x45, x46, x47, x48, u49, u50, u51, u52, u53, u54, u55, u56], []⟩ ∧ Below wr.heap.size wr w' ∧ (done 0 = true → x40 = .pointer (some ⟨w.heap.size, 10, none⟩)) ∧ (done 1 = true → x41 = .slice (some ad) l.length f16) ∧ (done 2 = true → x42 = .int .i64 j) ∧ (done 3 = true → x43 = .pointer (some (ad.add (j * 11)))) ∧ (done 4 = true → x44 = .agg #[.int .i64 x.k, .int .i64 x.id, .int .i64 x.code, .string x.t, .int .i64 x.body.k, .int .i64 x.body.i, .int .u64 x.body.b, .string x.body.t, .slice x.body.A x.body.l.length x.body.c, .slice x.cA x.codes.length x.cc, .slice x.A x.l.length x.c]) ∧ (done 5 = true → x45 = .agg #[.int .i64 g0, .int .i64 g1, .int .i64 g2, .string g3, .int .i64 g4, .int .i64 g5, .int .u64 g6, .string g7, .slice g8 g9 g10, .slice g11 g12 g13, .slice g14 g15 g16]) ∧ (done 6 = true → x46 = .tuple #[.bool z.1, .int .i64 (if z.2 then 10 else 0)]) ∧ (done 7 = true → x39 = .tuple #[.bool z.1, .int .i64 (if z.2 then 10 else 0)]) ∧ (done 8 = true → x47 = .bool z.1) ∧ (done 9 = true → x48 = .int .i64 (if z.2 then 10 else 0)) ∧ (done 10 = true → x9 = .bool z.1) ∧ (done 11 = true → x10 = .int .i64 (if z.2 then 10 else 0))) ?_ ?_ ?_
            · refine ⟨_, _, _, _, _, _, _, _, _, _, _, _, rfl, (Below.refl _ _).drew, ?_⟩
              simp
            · refine ⟨?_, ?_, ?_, ?_, ?_, ?_, ?_, ?_, ?_, ?_, ?_, ?_, trivial⟩
              · rintro done a wx hd he ⟨x9, x10, x39, x40, x41, x42, x43, x44, x45, x46, x47, x48, rfl, hB, i0, i1, i2, i3, i4, i5, i6, i7, i8, i9, i10, i11⟩ K hK
                refine step_wp rfl (wp_value (.pointer (some ⟨w.heap.size, 10, none⟩)) (by kernel_rfl) ?_)
                exact hK _ _ ⟨x9, x10, x39, _, x41, x42, x43, x44, x45, x46, x47, x48, rfl, hB, fun _ => rfl, i1, i2, i3, i4, i5, i6, i7, i8, i9, i10, i11⟩
              · rintro done a wx hd he ⟨x9, x10, x39, x40, x41, x42, x43, x44, x45, x46, x47, x48, rfl, hB, i0, i1, i2, i3, i4, i5, i6, i7, i8, i9, i10, i11⟩ K hK
                simp [Region.binds] at he
                obtain rfl := i0 (by simp [he])
                refine step_wp rfl (wp_load_cell 27 _ rfl ⟨w.heap.size, 10, none⟩ rfl _ _ (Hc.out wx hB) uS rfl ?_)
                exact hK _ _ ⟨x9, x10, x39, _, _, x42, x43, x44, x45, x46, x47, x48, rfl, hB, fun _ => rfl, fun _ => rfl, i2, i3, i4, i5, i6, i7, i8, i9, i10, i11⟩
              · rintro done a wx hd he ⟨x9, x10, x39, x40, x41, x42, x43, x44, x45, x46, x47, x48, rfl, hB, i0, i1, i2, i3, i4, i5, i6, i7, i8, i9, i10, i11⟩ K hK
                refine step_wp rfl (wp_value (.int .i64 j) (by kernel_rfl) ?_)
                exact hK _ _ ⟨x9, x10, x39, x40, x41, _, x43, x44, x45, x46, x47, x48, rfl, hB, i0, i1, fun _ => rfl, i3, i4, i5, i6, i7, i8, i9, i10, i11⟩
              · rintro done a wx hd he ⟨x9, x10, x39, x40, x41, x42, x43, x44, x45, x46, x47, x48, rfl, hB, i0, i1, i2, i3, i4, i5, i6, i7, i8, i9, i10, i11⟩ K hK
                simp [Region.binds] at he
                obtain rfl := i1 (by simp [he])
                obtain rfl := i2 (by simp [he])
                refine step_wp rfl (wp_value (.pointer (some (ad.add (j * 11)))) (idx_e ad l.length f16 j hlt _ _ rfl rfl rfl wx) ?_)
                exact hK _ _ ⟨x9, x10, x39, x40, _, _, _, x44, x45, x46, x47, x48, rfl, hB, i0, fun _ => rfl, fun _ => rfl, fun _ => rfl, i4, i5, i6, i7, i8, i9, i10, i11⟩
              · rintro done a wx hd he ⟨x9, x10, x39, x40, x41, x42, x43, x44, x45, x46, x47, x48, rfl, hB, i0, i1, i2, i3, i4, i5, i6, i7, i8, i9, i10, i11⟩ K hK
                simp [Region.binds] at he
                obtain rfl := i3 (by simp [he])
                refine step_wp rfl (wp_load_at 29 _ rfl (ad.add (j * 11)) rfl _ _ (Hx.out wx hB) uE rfl sE ?_)
                exact hK _ _ ⟨x9, x10, x39, x40, x41, x42, _, _, x45, x46, x47, x48, rfl, hB, i0, i1, i2, fun _ => rfl, fun _ => rfl, i5, i6, i7, i8, i9, i10, i11⟩
              · rintro done a wx hd he ⟨x9, x10, x39, x40, x41, x42, x43, x44, x45, x46, x47, x48, rfl, hB, i0, i1, i2, i3, i4, i5, i6, i7, i8, i9, i10, i11⟩ K hK
                refine step_wp rfl (wp_load_row 29 _ rfl (w.heap.size + 1) rfl _ _ _ _ (Ht.out wx hB) uE rfl sE ?_)
                exact hK _ _ ⟨x9, x10, x39, x40, x41, x42, x43, x44, _, x46, x47, x48, rfl, hB, i0, i1, i2, i3, i4, fun _ => rfl, i6, i7, i8, i9, i10, i11⟩
              · rintro done a wx hd he ⟨x9, x10, x39, x40, x41, x42, x43, x44, x45, x46, x47, x48, rfl, hB, i0, i1, i2, i3, i4, i5, i6, i7, i8, i9, i10, i11⟩ K hK
                simp [Region.binds] at he
                obtain rfl := i4 (by simp [he])
                obtain rfl := i5 (by simp [he])
                refine step_wp rfl (wp_call (f := 58) (args := #[.agg #[.int .i64 x.k, .int .i64 x.id, .int .i64 x.code, .string x.t, .int .i64 x.body.k, .int .i64 x.body.i, .int .u64 x.body.b, .string x.body.t, .slice x.body.A x.body.l.length x.body.c, .slice x.cA x.codes.length x.cc, .slice x.A x.l.length x.c], .agg #[.int .i64 g0, .int .i64 g1, .int .i64 g2, .string g3, .int .i64 g4, .int .i64 g5, .int .u64 g6, .string g7, .slice g8 g9 g10, .slice g11 g12 g13, .slice g14 g15 g16]]) (by kernel_rfl) (Hcall.out wx hB) ?_)
                rintro en w1 ⟨rfl, hb⟩
                exact ⟨_, rfl, hK _ _ ⟨x9, x10, x39, x40, x41, x42, x43, _, _, _, x47, x48, rfl, hB.trans (hb.mono hB.size), i0, i1, i2, i3, fun _ => rfl, fun _ => rfl, fun _ => rfl, i7, i8, i9, i10, i11⟩⟩
              · rintro done a wx hd he ⟨x9, x10, x39, x40, x41, x42, x43, x44, x45, x46, x47, x48, rfl, hB, i0, i1, i2, i3, i4, i5, i6, i7, i8, i9, i10, i11⟩ K hK
                simp [Region.binds] at he
                obtain rfl := i6 (by simp [he])
                refine step_wp rfl (wp_value (.tuple #[.bool z.1, .int .i64 (if z.2 then 10 else 0)]) (by kernel_rfl) ?_)
                exact hK _ _ ⟨x9, x10, _, x40, x41, x42, x43, x44, x45, _, x47, x48, rfl, hB, i0, i1, i2, i3, i4, i5, fun _ => rfl, fun _ => rfl, i8, i9, i10, i11⟩
              · rintro done a wx hd he ⟨x9, x10, x39, x40, x41, x42, x43, x44, x45, x46, x47, x48, rfl, hB, i0, i1, i2, i3, i4, i5, i6, i7, i8, i9, i10, i11⟩ K hK
                simp [Region.binds] at he
                obtain rfl := i7 (by simp [he])
                refine step_wp rfl (wp_value (.bool z.1) (by kernel_rfl) ?_)
                exact hK _ _ ⟨x9, x10, _, x40, x41, x42, x43, x44, x45, x46, _, x48, rfl, hB, i0, i1, i2, i3, i4, i5, i6, fun _ => rfl, fun _ => rfl, i9, i10, i11⟩
              · rintro done a wx hd he ⟨x9, x10, x39, x40, x41, x42, x43, x44, x45, x46, x47, x48, rfl, hB, i0, i1, i2, i3, i4, i5, i6, i7, i8, i9, i10, i11⟩ K hK
                simp [Region.binds] at he
                obtain rfl := i7 (by simp [he])
                refine step_wp rfl (wp_value (.int .i64 (if z.2 then 10 else 0)) (by kernel_rfl) ?_)
                exact hK _ _ ⟨x9, x10, _, x40, x41, x42, x43, x44, x45, x46, x47, _, rfl, hB, i0, i1, i2, i3, i4, i5, i6, fun _ => rfl, i8, fun _ => rfl, i10, i11⟩
              · rintro done a wx hd he ⟨x9, x10, x39, x40, x41, x42, x43, x44, x45, x46, x47, x48, rfl, hB, i0, i1, i2, i3, i4, i5, i6, i7, i8, i9, i10, i11⟩ K hK
                simp [Region.binds] at he
                obtain rfl := i8 (by simp [he])
                refine step_wp rfl (wp_value (.bool z.1) (by kernel_rfl) ?_)
                exact hK _ _ ⟨_, x10, x39, x40, x41, x42, x43, x44, x45, x46, _, x48, rfl, hB, i0, i1, i2, i3, i4, i5, i6, i7, fun _ => rfl, i9, fun _ => rfl, i11⟩
              · rintro done a wx hd he ⟨x9, x10, x39, x40, x41, x42, x43, x44, x45, x46, x47, x48, rfl, hB, i0, i1, i2, i3, i4, i5, i6, i7, i8, i9, i10, i11⟩ K hK
                simp [Region.binds] at he
                obtain rfl := i9 (by simp [he])
                refine step_wp rfl (wp_value (.int .i64 (if z.2 then 10 else 0)) (by kernel_rfl) ?_)
                exact hK _ _ ⟨x9, _, x39, x40, x41, x42, x43, x44, x45, x46, x47, _, rfl, hB, i0, i1, i2, i3, i4, i5, i6, i7, i8, fun _ => rfl, i10, fun _ => rfl⟩
            · rintro done a wx hd ⟨x9, x10, x39, x40, x41, x42, x43, x44, x45, x46, x47, x48, rfl, hB, i0, i1, i2, i3, i4, i5, i6, i7, i8, i9, i10, i11⟩
              have dd : ∀ j, j < 12 → done j = true := fun j h => hd j (by simpa using h)
              obtain rfl := i0 (dd 0 (by omega))
              obtain rfl := i1 (dd 1 (by omega))
              obtain rfl := i2 (dd 2 (by omega))
              obtain rfl := i3 (dd 3 (by omega))
              obtain rfl := i4 (dd 4 (by omega))
              obtain rfl := i5 (dd 5 (by omega))
              obtain rfl := i6 (dd 6 (by omega))
              obtain rfl := i7 (dd 7 (by omega))
              obtain rfl := i8 (dd 8 (by omega))
              obtain rfl := i9 (dd 9 (by omega))
              obtain rfl := i10 (dd 10 (by omega))
              obtain rfl := i11 (dd 11 (by omega))
              clear i0 i1 i2 i3 i4 i5 i6 i7 i8 i9 i10 i11 dd
              have Hf := Lib.hid (And.intro (Hbel.out.trans (hB.mono Hbel.out.size)) (Hall.out.trans (hB.mono Hall.out.size)))
              clear hB Hc Ht Hx Hcall uE uS sE
              obtain ⟨z1, z2⟩ := z
              cases z1
              · cases z2
                · have hnx := Lib.hid (show E.risL D.req t (l.drop (j + 1)) = r by rw [← hinv.out, hst.out]; rfl)
                  go_wp2_with fail
                  go_roundg (gk - 1)
                  case measure => omega
                  case rel => exact ⟨j + 1, by go_num, by omega, Hf.out.1, hnx⟩
                · have hrr : r = (false, true) := by rw [← hinv.out, hst.out]; rfl
                  subst hrr
                  go_wp2_with fail
                  go_ret2
                  exact .mk Hf.out.2 rfl rfl
              · have hrr : r = (true, z2) := by rw [← hinv.out, hst.out]; rfl
                subst hrr
                cases z2
                all_goals
                  go_wp2_with fail
                  go_ret2
                  exact .mk Hf.out.2 rfl rfl
          · have hrr : r = (false, false) := by rw [← hinv.out, List.drop_eq_nil_of_le (by omega), E.risL]
            subst hrr
            have Hf := Lib.hid (HC.out.2.2.trans (Hbel.out.mono HC.out.2.2.size))
            have c10 := (HC.out.1.to Hbel.out).cell 10
            simp at c10
            go_wp2_with fail
            go_ret2
            exact .mk Hf.out rfl rfl
      · have hrr : r = (true, false) := by rw [Hr.out]; simp
        subst hrr
        go_wp2_with fail
        go_ret2
        exact .mk HC.out.2.2 rfl rfl
end Go.Proofs.YtbhmeapnmpgggaaGreatDoor
