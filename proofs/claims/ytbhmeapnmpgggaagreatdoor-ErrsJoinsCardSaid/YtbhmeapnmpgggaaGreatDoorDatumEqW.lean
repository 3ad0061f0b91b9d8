/- datum.Equal: the walk. Conditions: both trees lie in the world and are valid. -/
import Derived.Test.YtbhmeapnmpgggaaGreatDoorBoxEqual
import Derived.Defers
import Derived.Recover
import Derived.Test.YtbhmeapnmpgggaaGreatDoorEqualE
namespace Go.Proofs.YtbhmeapnmpgggaaGreatDoor
open Go.RowKit Go.Joins

theorem wp_call_p {P : Program} {Q : Exit → Act → World → Prop} {o : Oper} {a : Act} {w : World} {K : Act → World → Prop} {f : FuncId} {args : Array Value} {R : Ending → World → Prop} (ho : (execOp a.eval o).run P w = .ok (.enter f args) w)
    (hc : Calls P f args w R) (hk : ∀ e w', R e w' → (∃ v, e = .returned v ∧ K (a.put o.dst v) w') ∨ ∃ c, e = .panicked c ∧ Q (.panic c) a w') : o.wp P a w K Q := by
  unfold Oper.wp
  rw [ho]
  refine Calls.mono hc fun e w' h => ?_
  rcases hk e w' h with ⟨v, rfl, hk⟩ | ⟨c, rfl, hk⟩
  · exact hk
  · exact hk
theorem kept_in {bs : List Nat} {M : Nat} {m2 : List (Int × Nat)} {a w w' : World} (h1 : Kept bs a w) (h2 : Kept (bsOf M m2) w w') (hM : M ∈ bs) (hm : ∀ x ∈ m2, a.heap.size ≤ x.2) : Kept bs a w' :=
  ⟨h2.os.trans h1.os, h2.tape.trans h1.tape, h2.output.trans h1.output, Nat.le_trans h1.size h2.size, fun i hi hn => (h2.block i (Nat.lt_of_lt_of_le hi h1.size) (fun hm2 => by
    rcases List.mem_cons.1 hm2 with rfl | h
    · exact hn hM
    · obtain ⟨x, hx, rfl⟩ := List.mem_map.1 h
      have := hm x hx
      omega)).trans (h1.block i hi hn)⟩

theorem deq_idle (p q : Addr) (w : World) :
    CallsD Tryz.prog 115 #[.pointer (some p), .pointer (some q)] .returning w fun e u' w' => e = .returned (.tuple #[]) ∧ u' = .returning ∧ w' = w := by
  refine callsD_of_wpS Tryz.func115 rfl fun c₀ cs hu => ?_
  apply wpS_seq
  apply wpS_region
  simp [wpOpsS, go_sem, recoverD, hu, Tryz.ntmps115, Exit.thenS]
  refine wpS_cond (t := false) (by simp [Act.eval, Array.replicate]) ?_
  simp only [Bool.false_eq_true, if_false]
  refine wpS_of_wp (wp_skip ?_)
  cases c₀
  simp_all [bodyPostS, results, Tryz.results115]
theorem neqAnyNil (T : TypeId) (y : Value) (w : World) : (binOp .neq 20 (.iface T y) .nilIface).run Tryz.prog w = .ok (.bool true) w := by kernel_rfl
theorem deq_panicking (p q : Addr) (x : Bool) (z : Int) (T : TypeId) (y : Value) (older : List PanicEntry) (w : World) (hc : w.cell? p = some (.bool x)) (hz : w.frozen? p = false) (hd : w.cell? q = some (.int .i64 z)) (hy : w.frozen? q = false)
    (hpq : p.block ≠ q.block) :
    CallsD Tryz.prog 115 #[.pointer (some p), .pointer (some q)] (.panicking ({ v := .iface T y, recovered := false } :: older)) w fun e u' w' =>
      e = .returned (.tuple #[]) ∧ u' = .panicking ({ v := .iface T y, recovered := true } :: older) ∧ w' = (w.setCell p (.bool false)).setCell q (.int .i64 10) := by
  have hq : (w.setCell p (.bool false)).cell? q = some (.int .i64 z) := by rw [World.cell?_setCell_other]; exact hd; exact fun e => hpq (by rw [e])
  have hq2 : (w.setCell p (.bool false)).frozen? q = false := by rw [World.frozen?_setCell]; exact hy
  refine callsD_of_wpS Tryz.func115 rfl fun c₀ cs hu => ?_
  apply wpS_seq
  apply wpS_region
  simp [wpOpsS, go_sem, recoverD, hu, Tryz.ntmps115, Exit.thenS, neqAnyNil]
  refine wpS_cond (t := true) (by simp [Act.eval, Array.replicate]) ?_
  simp only [if_true]
  apply wpS_region
  simp [wpOpsS, go_sem, hc, hz, hq, hq2, bodyPostS, results, Tryz.results115]
end Go.Proofs.YtbhmeapnmpgggaaGreatDoor
/- datum.Equal: the walk. Conditions: both trees lie in the world and are valid. -/
namespace Go.Proofs.YtbhmeapnmpgggaaGreatDoor
open Go.RowKit Go.Joins

/-- what stands in the slots of the region of datum.Equal -/
def DeqJ (B M gb ge : Nat) (x y : D) (W : World) (d2 d5 d6 d7 : Bool) (v1 v2 v15 : Value) (w' : World) : Prop :=
  ∃ m2, (∀ z ∈ m2, W.heap.size ≤ z.2) ∧ Boxes B w' M m2 ∧ Kept [M, gb, ge] W w' ∧ (d2 = true → DV m2 x v1) ∧ (d5 = true → DV m2 y v2) ∧ (d6 = true → v15 = .bool (x.req y).1 ∧ (x.req y).2 = false) ∧
    (∃ q, Blk w' gb 4 #[.bool q] ∧ (d7 = true → q = (x.req y).1)) ∧ Blk w' ge 32 #[.int .i64 0]
section
variable {B M gb ge : Nat} {x y : D} {W w w1 : World} {d2 d5 d6 d7 : Bool} {v1 v2 v15 : Value}
theorem DeqJ.keptJ (h : DeqJ B M gb ge x y W d2 d5 d6 d7 v1 v2 v15 w) : Kept [M, gb, ge] W w := let ⟨_, _, _, h, _⟩ := h; h
theorem DeqJ.call {m2 m3 : List (Int × Nat)} (j1 : ∀ z ∈ m2, W.heap.size ≤ z.2) (j2 : Boxes B w M m2) (j3 : Kept [M, gb, ge] W w) (h3 : ∀ z ∈ m3, w.heap.size ≤ z.2) (hk : Kept (bsOf M m2) w w1) :
    (∀ z ∈ m2 ++ m3, W.heap.size ≤ z.2) ∧ Kept [M, gb, ge] W w1 ∧ (∀ q, Blk w gb 4 #[.bool q] → Blk w1 gb 4 #[.bool q]) ∧ (Blk w ge 32 #[.int .i64 0] → Blk w1 ge 32 #[.int .i64 0]) := by
  refine ⟨fun z hz => ?_, kept_in j3 hk (by simp) j1, fun q h => h.kept hk (j2.apart (by decide) h), fun h => h.kept hk (j2.apart (by decide) h)⟩
  rcases List.mem_append.1 hz with h | h
  · exact j1 z h
  · exact Nat.le_trans j3.size (h3 z h)
theorem DeqJ.call1 (h : DeqJ B M gb ge x y W d2 d5 d6 d7 v1 v2 v15 w)
    (ih : ∀ m2, Boxes B w M m2 → Kept [M, gb, ge] W w → Calls Tryz.prog 99 #[.map (some M), x.v] w (ValueD B M m2 x w)) :
    Calls Tryz.prog 99 #[.map (some M), x.v] w fun e w1 => ∃ v, e = .returned v ∧ DeqJ B M gb ge x y W true d5 d6 d7 v v2 v15 w1 := by
  obtain ⟨m2, j1, j2, j3, j4, j5, j6, ⟨q, j7, j8⟩, j9⟩ := h
  refine (ih m2 j2 j3).mono ?_
  rintro e w1 ⟨v, m3, rfl, h3, hx1, hdv, hk1⟩
  obtain ⟨c1, c2, c3, c4⟩ := DeqJ.call j1 j2 j3 h3 hk1
  exact ⟨v, rfl, m2 ++ m3, c1, hx1, c2, fun _ => hdv, fun h => (j5 h).mono fun z hz => List.mem_append_left _ hz, j6, ⟨q, c3 q j7, j8⟩, c4 j9⟩
theorem DeqJ.call2 (h : DeqJ B M gb ge x y W d2 d5 d6 d7 v1 v2 v15 w)
    (ih : ∀ m2, Boxes B w M m2 → Kept [M, gb, ge] W w → Calls Tryz.prog 99 #[.map (some M), y.v] w (ValueD B M m2 y w)) :
    Calls Tryz.prog 99 #[.map (some M), y.v] w fun e w1 => ∃ v, e = .returned v ∧ DeqJ B M gb ge x y W d2 true d6 d7 v1 v v15 w1 := by
  obtain ⟨m2, j1, j2, j3, j4, j5, j6, ⟨q, j7, j8⟩, j9⟩ := h
  refine (ih m2 j2 j3).mono ?_
  rintro e w1 ⟨v, m3, rfl, h3, hx1, hdv, hk1⟩
  obtain ⟨c1, c2, c3, c4⟩ := DeqJ.call j1 j2 j3 h3 hk1
  exact ⟨v, rfl, m2 ++ m3, c1, hx1, c2, fun h => (j4 h).mono fun z hz => List.mem_append_left _ hz, fun _ => hdv, j6, ⟨q, c3 q j7, j8⟩, c4 j9⟩
theorem DeqJ.eq (h : DeqJ B M gb ge x y W d2 d5 d6 d7 v1 v2 v15 w) (h2 : d2 = true) (h5 : d5 = true) (rx : x.right = true) (ry : y.right = true) :
    Calls Tryz.prog 116 #[v1, v2] w fun e w1 => ((x.req y).2 = false ∧ e = .returned (.bool (x.req y).1) ∧ DeqJ B M gb ge x y W d2 d5 true d7 v1 v2 (.bool (x.req y).1) w1) ∨
      ((x.req y).2 = true ∧ (∃ s, e = .panicked [{ v := .iface Tryz.prog.rt.errorString (strVal s), recovered := false }]) ∧ ∃ q, Blk w1 gb 4 #[.bool q] ∧ Blk w1 ge 32 #[.int .i64 0] ∧ Kept [M, gb, ge] W w1) := by
  obtain ⟨m2, j1, j2, j3, j4, j5, j6, ⟨q, j7, j8⟩, j9⟩ := h
  refine (equalD_any _ x y v1 v2 w B M m2 (Nat.le_refl _) (j4 h2) (j5 h5) rx ry j2).mono ?_
  rintro e w1 ⟨hb, he⟩
  have hk : Kept [M, gb, ge] W w1 := j3.trans (Kept.of_below hb _)
  have b1 := j7.below hb j7.lt
  have b2 := j9.below hb j9.lt
  cases hr : (x.req y).2 with
  | true =>
    rw [hr] at he
    exact .inr ⟨rfl, he, q, b1, b2, hk⟩
  | false =>
    rw [hr] at he
    exact .inl ⟨rfl, he, m2, j1, j2.below hb, hk, j4, j5, fun _ => ⟨rfl, hr⟩, ⟨q, b1, j8⟩, b2⟩
theorem DeqJ.store1 (h : DeqJ B M gb ge x y W d2 d5 d6 d7 v1 v2 v15 w) (h6 : d6 = true) : v15 = .bool (x.req y).1 ∧ (∃ q, Blk w gb 4 #[.bool q]) ∧ DeqJ B M gb ge x y W d2 d5 d6 true v1 v2 v15 (w.setCell ⟨gb, 0, none⟩ v15) := by
  obtain ⟨m2, j1, j2, j3, j4, j5, j6, ⟨q, j7, j8⟩, j9⟩ := h
  obtain ⟨rfl, hs⟩ := j6 h6
  refine ⟨rfl, ⟨q, j7⟩, m2, j1, j2.turn fun k hk hl => Below.heap_setCell w ⟨gb, 0, none⟩ _ k (fun e => ?_), j3.setCell (p := ⟨gb, 0, none⟩) (.inl (by simp)) _, j4, j5, fun _ => ⟨rfl, hs⟩, ⟨_, by have := j7.set_ 0 (.bool (x.req y).1); simpa using this, fun _ => rfl⟩, j9.far (fun e => ?_) _⟩
  · subst e; exact j2.apart (by decide) j7 hk
  · simp at e
    subst e
    unfold Blk at j7 j9
    rw [j7] at j9
    simp at j9
theorem DeqJ.store2 (h : DeqJ B M gb ge x y W d2 d5 d6 d7 v1 v2 v15 w) : Blk w ge 32 #[.int .i64 0] ∧ DeqJ B M gb ge x y W d2 d5 d6 d7 v1 v2 v15 (w.setCell ⟨ge, 0, none⟩ (.int .i64 0)) := by
  obtain ⟨m2, j1, j2, j3, j4, j5, j6, ⟨q, j7, j8⟩, j9⟩ := h
  refine ⟨j9, m2, j1, j2.turn fun k hk hl => Below.heap_setCell w ⟨ge, 0, none⟩ _ k (fun e => ?_), j3.setCell (p := ⟨ge, 0, none⟩) (.inl (by simp)) _, j4, j5, j6, ⟨q, j7.far (fun e => ?_) _, j8⟩, by have := j9.set_ 0 (.int .i64 0); simpa using this⟩
  · subst e; exact j2.apart (by decide) j9 hk
  · simp at e
    subst e
    unfold Blk at j7 j9
    rw [j9] at j7
    simp at j7
end

def DeqPost (x y : D) (w : World) (e : Ending) (w2 : World) : Prop := e = .returned (.tuple #[.bool (x.req y).1, .int .i64 (if (x.req y).2 then 10 else 0)]) ∧ Below w.heap.size w w2
set_option maxHeartbeats 4000000 in
set_option maxRecDepth 100000 in
theorem datumEq_any (x y : D) (w : World) (hx : x.In w) (hy : y.In w) (ox : x.Ok) (oy : y.Ok) :
    Calls Tryz.prog 89 #[x.v, y.v] w (DeqPost x y w) := by
  have hmf : ∀ (fn : Fn) (first cap : Array Value) (w : World), (Instr.makeFunc fn first cap).run Tryz.prog w = .ok (.func fn first cap) w := fun _ _ _ _ => rfl
  have hmm := @run_makeMap Tryz.prog
  have hlx := hx.lo
  have hly := hy.lo
  have HX := Lib.hid (And.intro hx (And.intro hy (And.intro hlx (And.intro hly (And.intro ox oy)))))
  have hW : ∀ W, W = ((((w.alloc (.cells x.cs.toArray 25)).alloc (.cells y.cs.toArray 25)).alloc (.cells #[.bool false] 4)).alloc (.cells #[.int .i64 0] 32)).alloc (.map #[] 0) →
      Blk W w.heap.size 25 x.cs.toArray ∧ Blk W (w.heap.size + 1) 25 y.cs.toArray ∧ Blk W (w.heap.size + 2) 4 #[.bool false] ∧ Blk W (w.heap.size + 3) 32 #[.int .i64 0] ∧
      Boxes w.heap.size W (w.heap.size + 4) [] ∧ Below w.heap.size w W := fun W h => by
    have hz : ((((w.alloc (.cells x.cs.toArray 25)).alloc (.cells y.cs.toArray 25)).alloc (.cells #[.bool false] 4)).alloc (.cells #[.int .i64 0] 32)).heap.size = w.heap.size + 4 := by simp
    subst h
    refine ⟨((((Blk.new _ _ _).alloc _).alloc _).alloc _).alloc _, (((Blk.new' (by simp) _ _).alloc _).alloc _).alloc _, ((Blk.new' (by simp) _ _).alloc _).alloc _, (Blk.new' (by simp) _ _).alloc _, ⟨by omega, ?_, fun n g h => by simp at h, by simp, by simp⟩,
      (((((Below.refl _ _).alloc (Nat.le_refl _) _).alloc (by simp) _).alloc (by simp <;> omega) _).alloc (by simp <;> omega) _).alloc (by simp <;> omega) _⟩
    rw [← hz]
    exact heap_alloc_new _ _
  have HW := Lib.hid hW
  clear hW hx hy hlx hly ox oy
  simp only [D.v, D.cs] at HW ⊢
  go_enter_defers Tryz.func89, Tryz.ntmps89
  go_upto_region 3 with fail
  obtain ⟨b1, b2, b3, b4, b5, b6⟩ := HW.out _ rfl
  clear HW
  generalize ((((w.alloc _).alloc _).alloc _).alloc _).alloc _ = W at *
  have uD := Tryz.underlying25
  have sD : (Tryz.prog.info? 25).map (·.size) = some 5 := by kernel_rfl
  have sB : (Tryz.prog.info? 4).map (·.size) = some 1 := by kernel_rfl
  have sR : (Tryz.prog.info? 32).map (·.size) = some 1 := by kernel_rfl
  have hbs : ∀ k ∈ [w.heap.size + 4, w.heap.size + 2, w.heap.size + 3], w.heap.size ≤ k := by simp
  have hbel : ∀ w', Kept [w.heap.size + 4, w.heap.size + 2, w.heap.size + 3] W w' → Below w.heap.size w w' := fun w' h => b6.trans (h.below b6.size hbs)
  have Hc0 : Hid (∀ w' m2, Boxes w.heap.size w' (w.heap.size + 4) m2 → Kept [w.heap.size + 4, w.heap.size + 2, w.heap.size + 3] W w' → Calls Tryz.prog 99 #[.map (some (w.heap.size + 4)), x.v] w' (ValueD w.heap.size (w.heap.size + 4) m2 x w')) := Lib.hid fun w' m2 hb hk =>
    valueD_any 4096 (Nat.le_refl _) x w' w.heap.size (w.heap.size + 4) m2 HX.out.2.2.2.2.1.2.1 (HX.out.1.below' (hbel w' hk) HX.out.2.2.1) HX.out.2.2.1 HX.out.2.2.2.2.1.2.2 hb (Nat.le_trans b6.size hk.size)
  have Hc1 : Hid (∀ w' m2, Boxes w.heap.size w' (w.heap.size + 4) m2 → Kept [w.heap.size + 4, w.heap.size + 2, w.heap.size + 3] W w' → Calls Tryz.prog 99 #[.map (some (w.heap.size + 4)), y.v] w' (ValueD w.heap.size (w.heap.size + 4) m2 y w')) := Lib.hid fun w' m2 hb hk =>
    valueD_any 4096 (Nat.le_refl _) y w' w.heap.size (w.heap.size + 4) m2 HX.out.2.2.2.2.2.2.1 (HX.out.2.1.below' (hbel w' hk) HX.out.2.2.2.1) HX.out.2.2.2.1 HX.out.2.2.2.2.2.2.2 hb (Nat.le_trans b6.size hk.size)
  have Bx := Lib.hid b1
  have By := Lib.hid b2
  have Bb := Lib.hid b3
  have Be := Lib.hid b4
  have HbX := Lib.hid b5
  have Hbel := Lib.hid hbel
  clear b1 b2 b3 b4 b5 b6 hbs hbel hmf hmm
  refine wp_region_each (by kernel_rfl) (by kernel_rfl) (fun done a w' => ∃ x9 x10 x11 x12 x13 x14 x15, a = ⟨#[Value.agg #[Value.int IntKind.i64 x.k, Value.int IntKind.i64 x.i, Value.int IntKind.u64 x.b, Value.string x.t, Value.slice x.A x.l.length x.c], Value.agg #[Value.int IntKind.i64 y.k, Value.int IntKind.i64 y.i, Value.int IntKind.u64 y.b, Value.string y.t, Value.slice y.A y.l.length y.c], Value.pointer (some ⟨w.heap.size, 0, none⟩), Value.pointer (some ⟨w.heap.size + 1, 0, none⟩), Value.pointer (some ⟨w.heap.size + 2, 0, none⟩), Value.pointer (some ⟨w.heap.size + 3, 0, none⟩), Value.map (some (w.heap.size + 4)), Value.func (Fn.func 115) #[] #[Value.pointer (some ⟨w.heap.size + 2, 0, none⟩), Value.pointer (some ⟨w.heap.size + 3, 0, none⟩)], Value.map (some (w.heap.size + 4)), x9, x10, x11, x12, x13, x14, x15], [{ target := .fn (.func 115) #[.pointer (some ⟨w.heap.size + 2, 0, none⟩), .pointer (some ⟨w.heap.size + 3, 0, none⟩)], args := #[] }]⟩ ∧ DeqJ w.heap.size (w.heap.size + 4) (w.heap.size + 2) (w.heap.size + 3) x y W (done 2) (done 5) (done 6) (done 7) x11 x14 x15 w' ∧ (done 0 = true → x9 = .map (some (w.heap.size + 4))) ∧ (done 1 = true → x10 = x.v) ∧ (done 3 = true → x12 = .map (some (w.heap.size + 4))) ∧ (done 4 = true → x13 = y.v)) ?_ ?_ ?_
  · refine ⟨_, _, _, _, _, _, _, rfl, ⟨[], by simp, HbX.out.below (Below.refl _ _).drew, Kept.of_below (Below.refl _ _).drew _, by simp, by simp, by simp, ⟨false, Bb.out.drew, by simp⟩, Be.out.drew⟩, ?_⟩
    simp
  · refine ⟨?_, ?_, ?_, ?_, ?_, ?_, ?_, ?_, ?_, trivial⟩
    · rintro done a wx hd he ⟨x9, x10, x11, x12, x13, x14, x15, rfl, hB, i0, i1, i3, i4⟩ K hK
      refine step_wp rfl (wp_value (.map (some (w.heap.size + 4))) (by kernel_rfl) ?_)
      exact hK _ _ ⟨_, x10, x11, x12, x13, x14, x15, rfl, hB, fun _ => rfl, i1, i3, i4⟩
    · rintro done a wx hd he ⟨x9, x10, x11, x12, x13, x14, x15, rfl, hB, i0, i1, i3, i4⟩ K hK
      refine step_wp rfl (wp_load_row 25 _ rfl w.heap.size rfl _ _ _ _ (Bx.out.kept hB.keptJ (by simp)) uD rfl sD ?_)
      exact hK _ _ ⟨x9, _, x11, x12, x13, x14, x15, rfl, hB, i0, fun _ => rfl, i3, i4⟩
    · rintro done a wx hd he ⟨x9, x10, x11, x12, x13, x14, x15, rfl, hB, i0, i1, i3, i4⟩ K hK
      simp [Region.binds] at he
      obtain rfl := i0 (by simp [he])
      obtain rfl := i1 (by simp [he])
      refine step_wp rfl (wp_call (f := 99) (args := #[.map (some (w.heap.size + 4)), x.v]) (by kernel_rfl) (DeqJ.call1 hB (fun m2 j2 j3 => Hc0.out wx m2 j2 j3)) ?_)
      rintro en w1 ⟨v, rfl, hB⟩
      exact ⟨_, rfl, hK _ _ ⟨_, _, _, x12, x13, x14, x15, rfl, hB, fun _ => rfl, fun _ => rfl, i3, i4⟩⟩
    · rintro done a wx hd he ⟨x9, x10, x11, x12, x13, x14, x15, rfl, hB, i0, i1, i3, i4⟩ K hK
      refine step_wp rfl (wp_value (.map (some (w.heap.size + 4))) (by kernel_rfl) ?_)
      exact hK _ _ ⟨x9, x10, x11, _, x13, x14, x15, rfl, hB, i0, i1, fun _ => rfl, i4⟩
    · rintro done a wx hd he ⟨x9, x10, x11, x12, x13, x14, x15, rfl, hB, i0, i1, i3, i4⟩ K hK
      refine step_wp rfl (wp_load_row 25 _ rfl (w.heap.size + 1) rfl _ _ _ _ (By.out.kept hB.keptJ (by simp)) uD rfl sD ?_)
      exact hK _ _ ⟨x9, x10, x11, x12, _, x14, x15, rfl, hB, i0, i1, i3, fun _ => rfl⟩
    · rintro done a wx hd he ⟨x9, x10, x11, x12, x13, x14, x15, rfl, hB, i0, i1, i3, i4⟩ K hK
      simp [Region.binds] at he
      obtain rfl := i3 (by simp [he])
      obtain rfl := i4 (by simp [he])
      refine step_wp rfl (wp_call (f := 99) (args := #[.map (some (w.heap.size + 4)), y.v]) (by kernel_rfl) (DeqJ.call2 hB (fun m2 j2 j3 => Hc1.out wx m2 j2 j3)) ?_)
      rintro en w1 ⟨v, rfl, hB⟩
      exact ⟨_, rfl, hK _ _ ⟨x9, x10, x11, _, _, _, x15, rfl, hB, i0, i1, fun _ => rfl, fun _ => rfl⟩⟩
    · rintro done a wx hd he ⟨x9, x10, x11, x12, x13, x14, x15, rfl, hB, i0, i1, i3, i4⟩ K hK
      simp [Region.binds] at he
      refine step_wp rfl (wp_call_p (f := 116) (args := #[x11, x14]) (by kernel_rfl) (DeqJ.eq hB (by simp [he]) (by simp [he]) HX.out.2.2.2.2.1.2.2 HX.out.2.2.2.2.2.2.2) ?_)
      rintro en w1 (⟨hr, rfl, hB⟩ | ⟨hr, ⟨s, rfl⟩, q, q1, q2, q3⟩)
      · exact .inl ⟨_, rfl, hK _ _ ⟨x9, x10, x11, x12, x13, x14, _, rfl, hB, i0, i1, i3, i4⟩⟩
      · refine .inr ⟨_, rfl, ?_⟩
        have c1 := q1.cell 0
        have c2 := q2.cell 0
        have f1 := q1.frozen 0
        have f2 := q2.frozen 0
        simp at c1 c2
        have hrr := Lib.hid (And.intro (((Hbel.out _ q3).setCell (p := ⟨w.heap.size + 2, 0, none⟩) (by simp) (.bool false)).setCell (p := ⟨w.heap.size + 3, 0, none⟩) (by simp) (.int .i64 10)) (And.intro ((q1.set_ 0 (.bool false)).far (p := ⟨w.heap.size + 3, 0, none⟩) (by simp) (.int .i64 10)) ((q2.far (p := ⟨w.heap.size + 2, 0, none⟩) (by simp) (.bool false)).set_ 0 (.int .i64 10))))
        clear q1 q2 q3
        refine leaves_cons (f := 115) (args := #[.pointer (some ⟨w.heap.size + 2, 0, none⟩), .pointer (some ⟨w.heap.size + 3, 0, none⟩)]) (by simp) (by simp [go_sem]) ?_
        refine (deq_panicking ⟨w.heap.size + 2, 0, none⟩ ⟨w.heap.size + 3, 0, none⟩ q 0 _ _ [] w1 c1 f1 c2 f2 (by simp)).mono ?_
        rintro e u' w'' ⟨rfl, rfl, rfl⟩
        have d1 := hrr.out.2.1.cell 0
        have d2 := hrr.out.2.2.cell 0
        have hb := hrr.out.1
        generalize (w1.setCell _ _).setCell _ _ = W2 at *
        clear hrr
        simp at d1 d2
        simp [Leaves, settle, results, Tryz.results89, go_sem, d1, d2]
        exact ⟨by rw [D.req_snd _ x y (Nat.le_refl _) hr, hr]; rfl, hb⟩
    · rintro done a wx hd he ⟨x9, x10, x11, x12, x13, x14, x15, rfl, hB, i0, i1, i3, i4⟩ K hK
      simp [Region.binds] at he
      obtain ⟨e15, ⟨q, q1⟩, hB⟩ := hB.store1 (by simp [he])
      subst e15
      have c1 := q1.cell 0
      have c2 := q1.frozen 0
      simp at c1
      refine step_wp rfl (wp_store_cell 4 _ _ rfl ⟨w.heap.size + 2, 0, none⟩ rfl _ rfl rfl rfl sB _ c1 c2 ?_)
      exact hK _ _ ⟨x9, x10, x11, x12, x13, x14, _, rfl, hB, i0, i1, i3, i4⟩
    · rintro done a wx hd he ⟨x9, x10, x11, x12, x13, x14, x15, rfl, hB, i0, i1, i3, i4⟩ K hK
      obtain ⟨q1, hB⟩ := hB.store2
      have c1 := q1.cell 0
      have c2 := q1.frozen 0
      simp at c1
      refine step_wp rfl (wp_store_cell 32 _ _ rfl ⟨w.heap.size + 3, 0, none⟩ rfl _ rfl rfl rfl sR _ c1 c2 ?_)
      exact hK _ _ ⟨x9, x10, x11, x12, x13, x14, x15, rfl, hB, i0, i1, i3, i4⟩
  · rintro done a wx hd ⟨x9, x10, x11, x12, x13, x14, x15, rfl, hB, i0, i1, i3, i4⟩
    have dd : ∀ j, j < 9 → done j = true := fun j h => hd j (by simpa using h)
    obtain rfl := i0 (dd 0 (by omega))
    obtain rfl := i1 (dd 1 (by omega))
    obtain rfl := i3 (dd 3 (by omega))
    obtain rfl := i4 (dd 4 (by omega))
    clear i0 i1 i3 i4 dd
    obtain ⟨m2, -, -, j3, -, -, j6, ⟨q, j7, j8⟩, j9⟩ := hB
    have hq := j8 (hd 7 (by simp))
    subst hq
    have hs := (j6 (hd 6 (by simp))).2
    have d1 := j7.cell 0
    have d2 := j9.cell 0
    have hb := Hbel.out _ j3
    simp at d1 d2
    have Hf := Lib.hid (And.intro hs hb)
    clear j3 j6 j7 j8 j9 hs hb hd
    go_wp2_with fail
    refine leaves_cons (f := 115) (args := #[.pointer (some ⟨w.heap.size + 2, 0, none⟩), .pointer (some ⟨w.heap.size + 3, 0, none⟩)]) (by simp) (by simp [go_sem]) ?_
    refine (deq_idle ⟨w.heap.size + 2, 0, none⟩ ⟨w.heap.size + 3, 0, none⟩ _).mono ?_
    rintro e u' w'' ⟨rfl, rfl, rfl⟩
    simp [Leaves, settle, results, Tryz.results89, go_sem, d1, d2]
    exact ⟨by rw [Hf.out.1]; rfl, Hf.out.2⟩
end Go.Proofs.YtbhmeapnmpgggaaGreatDoor
