/- A region that appends a tree made anew to a list: what holds between its operations. No condition. -/
import Derived.Test.YtbhmeapnmpgggaaGreatDoorChain
namespace Go.Proofs.YtbhmeapnmpgggaaGreatDoor
open Go.RowKit

section
variable {P : Program} {Q : Exit → Act → World → Prop}
theorem wp_value' {o : Oper} {a : Act} {w w' : World} {K : Act → World → Prop} (v : Value) (ho : (execOp a.eval o).run P w = .ok (.value v) w') (h : K (a.put o.dst v) w') : o.wp P a w K Q := by
  unfold Oper.wp
  rw [ho]
  exact h
theorem wp_box {o : Oper} {a : Act} {w w' : World} {K : Act → World → Prop} (T : TypeId) (x : Operand) (v u : Value) (ho : o.op = .buildSlice T 1 #[(0, x)]) (hx : a.eval x = v) (hr : (Instr.buildSlice T 1 #[(0, v)]).run P w = .ok u w')
    (h : K (a.put o.dst u) w') : o.wp P a w K Q := by
  unfold Oper.wp execOp
  simp only [ho, List.map_toArray, List.map_cons, List.map_nil, hx, Sem.run_bind, hr, Result.andThen_ok, Sem.run_pure]
  exact h
theorem wp_append_own_at {o : Oper} {a : Act} {w : World} {K : Act → World → Prop} (s x : Operand) (t : TypeId)
    (ho : o.op = .call { callee := .builtin .append, args := #[s, x], argTypes := #[t, t] })
    (base : Nat) (e : TypeId) (i : TypeInfo) (z : Value) (size bytes : Nat) (ht : P.underlying t = some (.slice e)) (hi : P.info? e = some i) (hz : i.zero = some z)
    (hsize : i.size = size) (hby : i.bytes = bytes) (hzs : z.cells.size = size) (hsz : 0 < size)
    (v : Value) (n : Nat) (xs : List Value) (hs : a.eval s = v) (hown : w.ownsRow base e size v n xs)
    (ad : Addr) (m c : Nat) (news : List Value) (hx : a.eval x = .slice (some ad) m c) (hl : news.length = m * size) (hnews : ∀ j u, news[j]? = some u → w.cell? (ad.add j) = some u) (h1 : ∀ u ∈ news, u.oneCell' = true)
    (h63 : n + m ≤ maxLen) (hbytes : (n + m) * bytes ≤ 140737488355328) (hbase : base ≤ w.heap.size)
    (h : ∀ v' w', w'.ownsRow base e size v' (n + m) (xs ++ news) → w.grownBy w' v.ownBlock → (v'.ownBlock = v.ownBlock ∨ v'.ownBlock = some w.heap.size) → K (a.put o.dst v') w') :
    o.wp P a w K Q := by
  obtain ⟨v', w', hr, h2, h3, h4, h5⟩ := run_append_own_at (P := P) w base t o.type e i z size bytes ht hi hz hsize hby hzs hsz v n xs hown ad m c news hl hnews h1 h63 hbytes hbase
  unfold Oper.wp execOp
  simp only [ho, resolve, invoke, builtin, Sem.run_bind, Sem.run_pure, Result.andThen_ok, List.map_toArray, List.map_cons, List.map_nil, hs, hx, hr]
  exact h _ _ h2 h3 h5
end

theorem infoD : (Tryz.prog.info? 25).map (fun i => (i.zero, i.size, i.bytes)) = some (some (.agg #[.int .i64 0, .int .i64 0, .int .u64 0, .string ⟨#[]⟩, .slice none 0 0]), 5, 64) := by kernel_rfl
theorem infoE : (Tryz.prog.info? 29).map (fun i => (i.zero, i.size, i.bytes)) = some (some (.agg #[.int .i64 0, .int .i64 0, .int .i64 0, .string ⟨#[]⟩, .int .i64 0, .int .i64 0, .int .u64 0, .string ⟨#[]⟩, .slice none 0 0, .slice none 0 0, .slice none 0 0]), 11, 152) := by kernel_rfl
theorem D.cs_one (d : D) : ∀ u ∈ d.cs, u.oneCell' = true := by
  intro u hu
  simp only [D.cs, List.mem_cons, List.mem_nil_iff, or_false] at hu
  rcases hu with rfl | rfl | rfl | rfl | rfl <;> rfl
theorem E.cs_one (d : E) : ∀ u ∈ d.cs, u.oneCell' = true := by
  intro u hu
  simp only [E.cs, List.mem_cons, List.mem_nil_iff, or_false] at hu
  rcases hu with rfl | rfl | rfl | rfl | rfl | rfl | rfl | rfl | rfl | rfl | rfl <;> rfl
theorem Blk.at_ {w : World} {g : Nat} {t : TypeId} {cs : List Value} (h : Blk w g t cs.toArray) : At w ⟨g, 0, none⟩ cs := fun q u hu => by
  have := h.cell q
  rw [List.getElem?_toArray, hu] at this
  unfold Addr.add
  by_cases hq : q = 0
  · subst hq; simpa using this
  · simpa [hq] using this

/-- a tree alike, all of whose memory is new -/
def D.New (x : D) (w : World) (e : Ending) (w' : World) : Prop := ∃ x' : D, e = .returned x'.v ∧ x'.In w' ∧ x'.bare = x.bare ∧ x'.All (w.heap.size ≤ ·) ∧ Below w.heap.size w w'
def D.Got (W : World) (x : D) (v : Value) (w : World) : Prop := ∃ x' : D, v = x'.v ∧ x'.In w ∧ x'.bare = x.bare ∧ x'.All (W.heap.size ≤ ·)
def D.Boxed (W : World) (x : D) (v : Value) (w : World) : Prop := ∃ (x' : D) (g : Nat), v = .slice (some ⟨g, 0, none⟩) 1 1 ∧ Blk w g 25 x'.cs.toArray ∧ x'.In w ∧ x'.bare = x.bare ∧ x'.All (W.heap.size ≤ ·)
def D.Put (B : Nat) (W : World) (s : Value) (es : List D) (x : D) (v : Value) (w : World) : Prop := ∃ x' : D, x'.bare = x.bare ∧ D.Row B w v (es ++ [x']) ∧ W.grownBy w s.ownBlock
theorem D.Got.below {W w w' : World} {x : D} {v : Value} (h : D.Got W x v w) (hb : Below w.heap.size w w') : D.Got W x v w' := by
  obtain ⟨x', h1, h2, h3, h4⟩ := h
  exact ⟨x', h1, h2.below hb, h3, h4⟩
theorem D.New.got {W w w' : World} {x : D} {e : Ending} (hW : Below W.heap.size W w) (h : D.New x w e w') : ∃ v, e = .returned v ∧ D.Got W x v w' ∧ Below W.heap.size W w' := by
  obtain ⟨x', h1, h2, h3, h4, h5⟩ := h
  exact ⟨_, h1, ⟨x', rfl, h2, h3, h4.mono fun g hg => Nat.le_trans hW.size hg⟩, hW.trans (h5.mono hW.size)⟩
theorem D.Got.box {W w : World} {x : D} {v : Value} (T : TypeId) (hT : T = 23) (hW : Below W.heap.size W w) (h : D.Got W x v w) : ∃ u w', (Instr.buildSlice T 1 #[(0, v)]).run Tryz.prog w = .ok u w' ∧ D.Boxed W x u w' ∧ Below W.heap.size W w' := by
  obtain ⟨x', rfl, h2, h3, h4⟩ := h
  subst hT
  have hb := (Below.refl w.heap.size w).alloc (Nat.le_refl _) (.cells x'.cs.toArray 25)
  refine ⟨.slice (some ⟨w.heap.size, 0, none⟩) 1 1, w.alloc (.cells x'.cs.toArray 25), ?_, ⟨x', w.heap.size, rfl, Blk.new _ _ _, h2.below hb, h3, h4⟩, hW.trans (hb.mono hW.size)⟩
  kernel_rfl
/-- the append's operation -/
theorem D.Boxed.append {W w : World} {B : Nat} {s v : Value} {es : List D} {x : D} {o : Oper} {a : Act} {K : Act → World → Prop} {Q : Exit → Act → World → Prop} (h : D.Boxed W x v w) (hW : Below W.heap.size W w) (hB : B ≤ W.heap.size) (hrow : D.Row B W s es) (hlen : es.length ≤ 1000000)
    (p q : Operand) (ho : o.op = .call { callee := .builtin .append, args := #[p, q], argTypes := #[23, 23] }) (hp : a.eval p = s) (hq : a.eval q = v)
    (hK : ∀ v' w', D.Put B W s es x v' w' → K (a.put o.dst v') w') : o.wp Tryz.prog a w K Q := by
  obtain ⟨x', g, rfl, hb, hi, hx, ha⟩ := h
  obtain ⟨i0, j1, j2, j3, j4⟩ := info_parts infoD
  refine wp_append_own_at p q 23 ho B 25 i0 _ 5 64 Tryz.underlying23 j1 j2 j3 j4 rfl (by omega) s es.length (es.flatMap D.cs) hp (hrow.below hW).1 ⟨g, 0, none⟩ 1 1 x'.cs hq (by rw [D.cs_len]) hb.at_ (D.cs_one x') (by unfold maxLen; omega) (by omega) (Nat.le_trans hB hW.size) ?_
  intro v' w' hown hg hat
  have hs : ∀ k, s.ownBlock = some k → k < W.heap.size := fun k hk => (hrow.1.lt k hk).2
  refine hK v' w' ⟨x', hx, hrow.snoc hB hW hi ha hown hg hat, ?_⟩
  exact ⟨hg.os.trans hW.os, hg.tape.trans hW.tape, hg.output.trans hW.output, Nat.le_trans hW.size hg.size, fun k hk hne => (hg.block k (Nat.lt_of_lt_of_le hk hW.size) hne).trans (hW.block k hk)⟩

def E.New (x : E) (w : World) (e : Ending) (w' : World) : Prop := ∃ x' : E, e = .returned x'.v ∧ x'.In w' ∧ x'.bare = x.bare ∧ x'.All (w.heap.size ≤ ·) ∧ Below w.heap.size w w'
def E.Got (W : World) (x : E) (v : Value) (w : World) : Prop := ∃ x' : E, v = x'.v ∧ x'.In w ∧ x'.bare = x.bare ∧ x'.All (W.heap.size ≤ ·)
def E.Boxed (W : World) (x : E) (v : Value) (w : World) : Prop := ∃ (x' : E) (g : Nat), v = .slice (some ⟨g, 0, none⟩) 1 1 ∧ Blk w g 29 x'.cs.toArray ∧ x'.In w ∧ x'.bare = x.bare ∧ x'.All (W.heap.size ≤ ·)
def E.Put (B : Nat) (W : World) (s : Value) (es : List E) (x : E) (v : Value) (w : World) : Prop := ∃ x' : E, x'.bare = x.bare ∧ E.Row B w v (es ++ [x']) ∧ W.grownBy w s.ownBlock
theorem E.Got.below {W w w' : World} {x : E} {v : Value} (h : E.Got W x v w) (hb : Below w.heap.size w w') : E.Got W x v w' := by
  obtain ⟨x', h1, h2, h3, h4⟩ := h
  exact ⟨x', h1, h2.below hb, h3, h4⟩
theorem E.New.got {W w w' : World} {x : E} {e : Ending} (hW : Below W.heap.size W w) (h : E.New x w e w') : ∃ v, e = .returned v ∧ E.Got W x v w' ∧ Below W.heap.size W w' := by
  obtain ⟨x', h1, h2, h3, h4, h5⟩ := h
  exact ⟨_, h1, ⟨x', rfl, h2, h3, h4.mono fun g hg => Nat.le_trans hW.size hg⟩, hW.trans (h5.mono hW.size)⟩
theorem E.Got.box {W w : World} {x : E} {v : Value} (T : TypeId) (hT : T = 27) (hW : Below W.heap.size W w) (h : E.Got W x v w) : ∃ u w', (Instr.buildSlice T 1 #[(0, v)]).run Tryz.prog w = .ok u w' ∧ E.Boxed W x u w' ∧ Below W.heap.size W w' := by
  obtain ⟨x', rfl, h2, h3, h4⟩ := h
  subst hT
  have hb := (Below.refl w.heap.size w).alloc (Nat.le_refl _) (.cells x'.cs.toArray 29)
  refine ⟨.slice (some ⟨w.heap.size, 0, none⟩) 1 1, w.alloc (.cells x'.cs.toArray 29), ?_, ⟨x', w.heap.size, rfl, Blk.new _ _ _, h2.below hb, h3, h4⟩, hW.trans (hb.mono hW.size)⟩
  kernel_rfl
theorem E.Boxed.append {W w : World} {B : Nat} {s v : Value} {es : List E} {x : E} {o : Oper} {a : Act} {K : Act → World → Prop} {Q : Exit → Act → World → Prop} (h : E.Boxed W x v w) (hW : Below W.heap.size W w) (hB : B ≤ W.heap.size) (hrow : E.Row B W s es) (hlen : es.length ≤ 1000000)
    (p q : Operand) (ho : o.op = .call { callee := .builtin .append, args := #[p, q], argTypes := #[27, 27] }) (hp : a.eval p = s) (hq : a.eval q = v)
    (hK : ∀ v' w', E.Put B W s es x v' w' → K (a.put o.dst v') w') : o.wp Tryz.prog a w K Q := by
  obtain ⟨x', g, rfl, hb, hi, hx, ha⟩ := h
  obtain ⟨i0, j1, j2, j3, j4⟩ := info_parts infoE
  refine wp_append_own_at p q 27 ho B 29 i0 _ 11 152 Tryz.underlying27 j1 j2 j3 j4 rfl (by omega) s es.length (es.flatMap E.cs) hp (hrow.below hW).1 ⟨g, 0, none⟩ 1 1 x'.cs hq (by rw [E.cs_len]) hb.at_ (E.cs_one x') (by unfold maxLen; omega) (by omega) (Nat.le_trans hB hW.size) ?_
  intro v' w' hown hg hat
  refine hK v' w' ⟨x', hx, hrow.snoc hB hW hi ha hown hg hat, ?_⟩
  exact ⟨hg.os.trans hW.os, hg.tape.trans hW.tape, hg.output.trans hW.output, Nat.le_trans hW.size hg.size, fun k hk hne => (hg.block k (Nat.lt_of_lt_of_le hk hW.size) hne).trans (hW.block k hk)⟩

/-! the region -/
section
variable {P : Program} {Q : Exit → Act → World → Prop}
/-- what an operation that is done has behind it is done -/
def Closed (l : List Oper) (done : Nat → Bool) : Prop := ∀ m o, l[m]? = some o → done m = true → ∀ e ∈ o.after, Region.binds .any e = true → done e.on = true
theorem wp_region_eachC {id : Nat} {l : List Oper} {a : Act} {w : World} (hm : P.follows .mixedOrders = true) (hb : backB l.toArray = true) (I : (Nat → Bool) → Act → World → Prop)
    (h0 : I (fun _ => false) a w.drew)
    (hstep : eachOp (fun i o => ∀ done a w, done i = false → (o.after.toList.all fun e => !Region.binds .any e || done e.on) = true → I done a w → Closed l done →
      ∀ K : Act → World → Prop, (∀ a' w', I (fun j => if j = i then true else done j) a' w' → K a' w') →
        if Region.wanted o (yielded l.toArray a.tmps) then o.wp P a w K Q else K (a.put o.dst undef) w) 0 l)
    (hend : ∀ done a w, (∀ j, j < l.length → done j = true) → I done a w → Q .normal a w) : (Code.region id l.toArray true).wp P Q a w := by
  refine wp_region_inv hm hb (fun done a w => I done a w ∧ Closed l done) ⟨h0, fun m o _ h => by cases h⟩ (fun i o ho done a w hd he hI K hK => ?_) (fun done a w hd hI => hend done a w (fun j hj => hd j (by simpa using hj)) hI.1)
  have hol : l[i]? = some o := by simpa using ho
  have := eachOp_at hstep i o hol
  rw [Nat.zero_add] at this
  have hh := this done a w hd (by
    rw [List.all_eq_true]
    intro e hm
    cases hb : Region.binds .any e
    · rfl
    · simpa using he e (by simpa using hm) hb) hI.1 hI.2 K (fun a' w' h => hK a' w' ⟨h, fun m o' hm hdm e he' hbd => by
      by_cases hmi : m = i
      · subst hmi
        rw [hol] at hm
        injection hm with hm
        subst hm
        have := he e he' hbd
        show (if e.on = m then true else done e.on) = true
        split
        · rfl
        · exact this
      · have h1 : done m = true := by simpa [hmi] using hdm
        have := hI.2 m o' hm h1 e he' hbd
        show (if e.on = i then true else done e.on) = true
        split
        · rfl
        · exact this⟩)
  unfold wpOp
  rw [ho]
  show if _ then _ else _
  split
  · rename_i hw; rw [if_pos hw] at hh; exact .inl hh
  · rename_i hw; rw [if_neg hw] at hh; exact hh
/-- each operation ahead of a is behind one that is not behind a -/
def coverB (l : List Oper) (a : Nat) : Bool := (List.range a).all fun k => (List.range (a + 1)).any fun m => decide (k < m) && ((l[m]?).map fun o => o.after.toList.any fun e => Region.binds .any e && decide (e.on = k)).getD false
theorem Closed.ahead {l : List Oper} {done : Nat → Bool} (hc : Closed l done) {a : Nat} (hb : coverB l a = true) (ha : done a = true) : ∀ k, k < a → done k = true := by
  have key : ∀ n k, a - k ≤ n → k ≤ a → done k = true := by
    intro n
    induction n with
    | zero => intro k h1 h2; obtain rfl : k = a := by omega
              exact ha
    | succ n ih =>
      intro k h1 h2
      rcases Nat.lt_or_ge k a with hlt | hge
      · have h3 := List.all_eq_true.1 hb k (List.mem_range.2 hlt)
        obtain ⟨m, hm, h4⟩ := List.any_eq_true.1 h3
        rw [Bool.and_eq_true, decide_eq_true_eq] at h4
        obtain ⟨h4, h5⟩ := h4
        have hma : m < a + 1 := List.mem_range.1 hm
        have hdm := ih m (by omega) (by omega)
        cases ho : l[m]? with
        | none => rw [ho] at h5; simp at h5
        | some o =>
          rw [ho] at h5
          simp only [Option.map_some, Option.getD_some] at h5
          obtain ⟨e, he, h6⟩ := List.any_eq_true.1 h5
          rw [Bool.and_eq_true, decide_eq_true_eq] at h6
          have := hc m o ho hdm e (by simpa using he) h6.1
          rwa [h6.2] at this
      · obtain rfl : k = a := by omega
        exact ha
  exact fun k hk => key a k (by omega) (by omega)
theorem Closed.not {l : List Oper} {done : Nat → Bool} (hc : Closed l done) {a k : Nat} (hb : coverB l a = true) (hk : k < a) (hd : done k = false) : done a = false := by
  cases h : done a
  · rfl
  · have := hc.ahead hb h k hk
    rw [hd] at this
    cases this
/-- the stages: made (C), boxed (X), appended (A), stored -/
def AppJ (W : World) (p : Addr) (C X A : Value → World → Prop) (dc db da ds : Bool) (vc vb va : Value) (w : World) : Prop :=
  (da = false ∧ ds = false ∧ Below W.heap.size W w ∧ (dc = true → C vc w) ∧ (db = true → X vb w)) ∨ (da = true ∧ ds = false ∧ A va w) ∨ (da = true ∧ ds = true ∧ ∃ w2, A va w2 ∧ w = w2.setCell p va)
variable {W : World} {p : Addr} {C X A : Value → World → Prop} {dc db da ds : Bool} {vc vb va : Value} {w : World}
theorem AppJ.start (W : World) (p : Addr) (C X A : Value → World → Prop) (vc vb va : Value) : AppJ W p C X A false false false false vc vb va W.drew :=
  .inl ⟨rfl, rfl, (Below.refl _ _).drew, (fun h => by cases h), fun h => by cases h⟩
theorem AppJ.first (h : AppJ W p C X A dc db da ds vc vb va w) (hda : da = false) : ds = false ∧ Below W.heap.size W w ∧ (dc = true → C vc w) ∧ (db = true → X vb w) := by
  rcases h with h | h | h
  · exact h.2
  · rw [hda] at h; exact absurd h.1 (by simp)
  · rw [hda] at h; exact absurd h.1 (by simp)
theorem AppJ.second (h : AppJ W p C X A dc db da ds vc vb va w) (hda : da = true) (hds : ds = false) : A va w := by
  rcases h with h | h | h
  · rw [hda] at h; exact absurd h.1 (by simp)
  · exact h.2.2
  · rw [hds] at h; exact absurd h.2.1 (by simp)
theorem AppJ.third (h : AppJ W p C X A dc db da ds vc vb va w) (hds : ds = true) : ∃ w2, A va w2 ∧ w = w2.setCell p va := by
  rcases h with h | h | h
  · rw [hds] at h; exact absurd h.2.1 (by simp)
  · rw [hds] at h; exact absurd h.2.1 (by simp)
  · exact h.2.2
end
/-! the steps of a region that appends a datum -/
theorem D.Boxed.below {W w w' : World} {x : D} {v : Value} (h : D.Boxed W x v w) (hb : Below w.heap.size w w') : D.Boxed W x v w' := by
  obtain ⟨x', g, h1, h2, h3, h4, h5⟩ := h
  exact ⟨x', g, h1, h2.below hb h2.lt, h3.below hb, h4, h5⟩
theorem D.step_call {W : World} {p : Addr} {A : Value → World → Prop} {dc db da ds : Bool} {vc vb va : Value} {w w' : World} {x : D} {e : Ending} (h : AppJ W p (D.Got W x) (D.Boxed W x) A dc db da ds vc vb va w) (hda : da = false) (hn : D.New x w e w') :
    ∃ v, e = .returned v ∧ AppJ W p (D.Got W x) (D.Boxed W x) A true db da ds v vb va w' := by
  obtain ⟨h1, h2, h3, h4⟩ := h.first hda
  have hb : Below w.heap.size w w' := hn.choose_spec.2.2.2.2
  obtain ⟨v, h5, h6, h7⟩ := hn.got h2
  exact ⟨v, h5, .inl ⟨hda, h1, h7, fun _ => h6, fun h => (h4 h).below hb⟩⟩
theorem D.step_box {W : World} {p : Addr} {A : Value → World → Prop} {dc db da ds : Bool} {vc vb va : Value} {w : World} {x : D} (h : AppJ W p (D.Got W x) (D.Boxed W x) A dc db da ds vc vb va w) (hda : da = false) (hdc : dc = true) :
    ∃ u w', (Instr.buildSlice 23 1 #[(0, vc)]).run Tryz.prog w = .ok u w' ∧ AppJ W p (D.Got W x) (D.Boxed W x) A dc true da ds vc u va w' := by
  obtain ⟨h1, h2, h3, h4⟩ := h.first hda
  obtain ⟨x', rfl, k2, k3, k4⟩ := h3 hdc
  have hb := (Below.refl w.heap.size w).alloc (Nat.le_refl _) (.cells x'.cs.toArray 25)
  refine ⟨.slice (some ⟨w.heap.size, 0, none⟩) 1 1, w.alloc (.cells x'.cs.toArray 25), by kernel_rfl, .inl ⟨hda, h1, h2.trans (hb.mono h2.size), fun _ => ⟨x', rfl, k2.below hb, k3, k4⟩, fun _ => ⟨x', w.heap.size, rfl, Blk.new _ _ _, k2.below hb, k3, k4⟩⟩⟩
theorem D.step_append {B : Nat} {W : World} {pt : Addr} {s : Value} {es : List D} {dc db da ds : Bool} {vc vb va : Value} {w : World} {x : D} (h : AppJ W pt (D.Got W x) (D.Boxed W x) (D.Put B W s es x) dc db da ds vc vb va w) (hda : da = false) (hdb : db = true)
    (hB : B ≤ W.heap.size) (hrow : D.Row B W s es) (hlen : es.length ≤ 1000000) {o : Oper} {a : Act} {K : Act → World → Prop} {Q : Exit → Act → World → Prop}
    (p q : Operand) (ho : o.op = .call { callee := .builtin .append, args := #[p, q], argTypes := #[23, 23] }) (hp : a.eval p = s) (hq : a.eval q = vb)
    (hK : ∀ v' w', AppJ W pt (D.Got W x) (D.Boxed W x) (D.Put B W s es x) dc db true ds vc vb v' w' → K (a.put o.dst v') w') : o.wp Tryz.prog a w K Q := by
  obtain ⟨h1, h2, h3, h4⟩ := h.first hda
  exact (h4 hdb).append h2 hB hrow hlen p q ho hp hq fun v' w' hput => hK v' w' (.inr (.inl ⟨rfl, h1, hput⟩))
theorem D.step_store {B : Nat} {W : World} {g f : Nat} {s : Value} {es : List D} {dc db da ds : Bool} {vc vb va : Value} {w : World} {x : D} (h : AppJ W ⟨g, f, none⟩ (D.Got W x) (D.Boxed W x) (D.Put B W s es x) dc db da ds vc vb va w) (hda : da = true) (hds : ds = false)
    (hrow : D.Row B W s es) (hg : g < B) {t : TypeId} {cs : Array Value} (hblk : Blk W g t cs) {old : Value} (hcs : cs[f]? = some old) {o : Oper} {a : Act} {K : Act → World → Prop} {Q : Exit → Act → World → Prop}
    (p q : Operand) (ho : o.op = .store 23 p q) (hp : a.eval p = .pointer (some ⟨g, f, none⟩)) (hq : a.eval q = va)
    (hK : ∀ w', AppJ W ⟨g, f, none⟩ (D.Got W x) (D.Boxed W x) (D.Put B W s es x) dc db da true vc vb va w' → K (a.put o.dst undef) w') : o.wp Tryz.prog a w K Q := by
  have hput := h.second hda hds
  have hput2 := hput
  obtain ⟨x', hx, hr, hgr⟩ := hput2
  obtain ⟨A, c, rfl, _⟩ := hr.list
  have hne : some g ≠ s.ownBlock := fun e => by have := (hrow.1.lt g e.symm).1; omega
  have hbw : Blk w g t cs := (hgr.block g hblk.lt hne).trans hblk
  exact wp_store_cell 23 p q ho ⟨g, f, none⟩ hp _ hq rfl rfl (by kernel_rfl) old ((hbw.cell f).trans hcs) (hbw.frozen f) (hK _ (.inr (.inr ⟨hda, rfl, w, hput, rfl⟩)))
/-- behind the region -/
theorem D.step_end {B : Nat} {W w0 : World} {g f : Nat} {s va : Value} {es : List D} {w : World} {x : D} (h : ∃ w2, D.Put B W s es x va w2 ∧ w = w2.setCell ⟨g, f, none⟩ va) (hrow : D.Row B W s es) (hg : g < B) (h0 : Below w0.heap.size w0 W) (hz : w0.heap.size ≤ g) (hB : B ≤ W.heap.size) {t : TypeId} {cs : Array Value} (hblk : Blk W g t cs) :
    ∃ x' : D, x'.bare = x.bare ∧ D.Row B w va (es ++ [x']) ∧ Blk w g t (cs.setIfInBounds f va) ∧ (∀ k t cs, k ≠ g → k < B → Blk W k t cs → Blk w k t cs) ∧ Below w0.heap.size w0 w ∧ B ≤ w.heap.size ∧ (∀ w3 gs, Kept gs w3 W → w3.heap.size ≤ B → g ∈ gs → Kept gs w3 w) := by
  obtain ⟨w2, ⟨x', hx, hr, hgr⟩, rfl⟩ := h
  have hlt := fun k h => (hrow.1.lt k h)
  have hne : ∀ k, k < B → some k ≠ s.ownBlock := fun k hk e => by have := (hlt k e.symm).1; omega
  have hbw : ∀ k t cs, k < B → Blk W k t cs → Blk w2 k t cs := fun k t cs hk hb => (hgr.block k hb.lt (hne k hk)).trans hb
  refine ⟨x', hx, hr.turn fun k hk _ => Below.heap_setCell _ _ _ _ (by show k ≠ g; omega), (hbw g t cs hg hblk).set_ f va, fun k t' cs' hk1 hk2 hb => (hbw k t' cs' hk2 hb).far hk1 va, ?_, ?_, ?_⟩
  · exact (h0.grown hgr h0.size (fun k hk => by have := (hlt k hk).1; omega)).setCell hz va
  · have := hgr.size
    simp only [World.setCell, Array.size_modify]
    omega
  · intro w3 gs hk h3 hgs
    have h4 : Kept gs w3 w2 := ⟨hgr.os.trans hk.os, hgr.tape.trans hk.tape, hgr.output.trans hk.output, Nat.le_trans hk.size hgr.size, fun k hk' hn => (hgr.block k (Nat.lt_of_lt_of_le hk' hk.size) (hne k (by omega))).trans (hk.block k hk' hn)⟩
    exact h4.setCell (.inl hgs) va
/-! the steps of a region that appends an error -/
theorem E.Boxed.below {W w w' : World} {x : E} {v : Value} (h : E.Boxed W x v w) (hb : Below w.heap.size w w') : E.Boxed W x v w' := by
  obtain ⟨x', g, h1, h2, h3, h4, h5⟩ := h
  exact ⟨x', g, h1, h2.below hb h2.lt, h3.below hb, h4, h5⟩
theorem E.step_call {W : World} {p : Addr} {A : Value → World → Prop} {dc db da ds : Bool} {vc vb va : Value} {w w' : World} {x : E} {e : Ending} (h : AppJ W p (E.Got W x) (E.Boxed W x) A dc db da ds vc vb va w) (hda : da = false) (hn : E.New x w e w') :
    ∃ v, e = .returned v ∧ AppJ W p (E.Got W x) (E.Boxed W x) A true db da ds v vb va w' := by
  obtain ⟨h1, h2, h3, h4⟩ := h.first hda
  have hb : Below w.heap.size w w' := hn.choose_spec.2.2.2.2
  obtain ⟨v, h5, h6, h7⟩ := hn.got h2
  exact ⟨v, h5, .inl ⟨hda, h1, h7, fun _ => h6, fun h => (h4 h).below hb⟩⟩
theorem E.step_box {W : World} {p : Addr} {A : Value → World → Prop} {dc db da ds : Bool} {vc vb va : Value} {w : World} {x : E} (h : AppJ W p (E.Got W x) (E.Boxed W x) A dc db da ds vc vb va w) (hda : da = false) (hdc : dc = true) :
    ∃ u w', (Instr.buildSlice 27 1 #[(0, vc)]).run Tryz.prog w = .ok u w' ∧ AppJ W p (E.Got W x) (E.Boxed W x) A dc true da ds vc u va w' := by
  obtain ⟨h1, h2, h3, h4⟩ := h.first hda
  obtain ⟨x', rfl, k2, k3, k4⟩ := h3 hdc
  have hb := (Below.refl w.heap.size w).alloc (Nat.le_refl _) (.cells x'.cs.toArray 29)
  refine ⟨.slice (some ⟨w.heap.size, 0, none⟩) 1 1, w.alloc (.cells x'.cs.toArray 29), by kernel_rfl, .inl ⟨hda, h1, h2.trans (hb.mono h2.size), fun _ => ⟨x', rfl, k2.below hb, k3, k4⟩, fun _ => ⟨x', w.heap.size, rfl, Blk.new _ _ _, k2.below hb, k3, k4⟩⟩⟩
theorem E.step_append {B : Nat} {W : World} {pt : Addr} {s : Value} {es : List E} {dc db da ds : Bool} {vc vb va : Value} {w : World} {x : E} (h : AppJ W pt (E.Got W x) (E.Boxed W x) (E.Put B W s es x) dc db da ds vc vb va w) (hda : da = false) (hdb : db = true)
    (hB : B ≤ W.heap.size) (hrow : E.Row B W s es) (hlen : es.length ≤ 1000000) {o : Oper} {a : Act} {K : Act → World → Prop} {Q : Exit → Act → World → Prop}
    (p q : Operand) (ho : o.op = .call { callee := .builtin .append, args := #[p, q], argTypes := #[27, 27] }) (hp : a.eval p = s) (hq : a.eval q = vb)
    (hK : ∀ v' w', AppJ W pt (E.Got W x) (E.Boxed W x) (E.Put B W s es x) dc db true ds vc vb v' w' → K (a.put o.dst v') w') : o.wp Tryz.prog a w K Q := by
  obtain ⟨h1, h2, h3, h4⟩ := h.first hda
  exact (h4 hdb).append h2 hB hrow hlen p q ho hp hq fun v' w' hput => hK v' w' (.inr (.inl ⟨rfl, h1, hput⟩))
theorem E.step_store {B : Nat} {W : World} {g f : Nat} {s : Value} {es : List E} {dc db da ds : Bool} {vc vb va : Value} {w : World} {x : E} (h : AppJ W ⟨g, f, none⟩ (E.Got W x) (E.Boxed W x) (E.Put B W s es x) dc db da ds vc vb va w) (hda : da = true) (hds : ds = false)
    (hrow : E.Row B W s es) (hg : g < B) {t : TypeId} {cs : Array Value} (hblk : Blk W g t cs) {old : Value} (hcs : cs[f]? = some old) {o : Oper} {a : Act} {K : Act → World → Prop} {Q : Exit → Act → World → Prop}
    (p q : Operand) (ho : o.op = .store 27 p q) (hp : a.eval p = .pointer (some ⟨g, f, none⟩)) (hq : a.eval q = va)
    (hK : ∀ w', AppJ W ⟨g, f, none⟩ (E.Got W x) (E.Boxed W x) (E.Put B W s es x) dc db da true vc vb va w' → K (a.put o.dst undef) w') : o.wp Tryz.prog a w K Q := by
  have hput := h.second hda hds
  have hput2 := hput
  obtain ⟨x', hx, hr, hgr⟩ := hput2
  obtain ⟨A, c, rfl, _⟩ := hr.list
  have hne : some g ≠ s.ownBlock := fun e => by have := (hrow.1.lt g e.symm).1; omega
  have hbw : Blk w g t cs := (hgr.block g hblk.lt hne).trans hblk
  exact wp_store_cell 27 p q ho ⟨g, f, none⟩ hp _ hq rfl rfl (by kernel_rfl) old ((hbw.cell f).trans hcs) (hbw.frozen f) (hK _ (.inr (.inr ⟨hda, rfl, w, hput, rfl⟩)))
/-- behind the region -/
theorem E.step_end {B : Nat} {W w0 : World} {g f : Nat} {s va : Value} {es : List E} {w : World} {x : E} (h : ∃ w2, E.Put B W s es x va w2 ∧ w = w2.setCell ⟨g, f, none⟩ va) (hrow : E.Row B W s es) (hg : g < B) (h0 : Below w0.heap.size w0 W) (hz : w0.heap.size ≤ g) (hB : B ≤ W.heap.size) {t : TypeId} {cs : Array Value} (hblk : Blk W g t cs) :
    ∃ x' : E, x'.bare = x.bare ∧ E.Row B w va (es ++ [x']) ∧ Blk w g t (cs.setIfInBounds f va) ∧ (∀ k t cs, k ≠ g → k < B → Blk W k t cs → Blk w k t cs) ∧ Below w0.heap.size w0 w ∧ B ≤ w.heap.size ∧ (∀ w3 gs, Kept gs w3 W → w3.heap.size ≤ B → g ∈ gs → Kept gs w3 w) := by
  obtain ⟨w2, ⟨x', hx, hr, hgr⟩, rfl⟩ := h
  have hlt := fun k h => (hrow.1.lt k h)
  have hne : ∀ k, k < B → some k ≠ s.ownBlock := fun k hk e => by have := (hlt k e.symm).1; omega
  have hbw : ∀ k t cs, k < B → Blk W k t cs → Blk w2 k t cs := fun k t cs hk hb => (hgr.block k hb.lt (hne k hk)).trans hb
  refine ⟨x', hx, hr.turn fun k hk _ => Below.heap_setCell _ _ _ _ (by show k ≠ g; omega), (hbw g t cs hg hblk).set_ f va, fun k t' cs' hk1 hk2 hb => (hbw k t' cs' hk2 hb).far hk1 va, ?_, ?_, ?_⟩
  · exact (h0.grown hgr h0.size (fun k hk => by have := (hlt k hk).1; omega)).setCell hz va
  · have := hgr.size
    simp only [World.setCell, Array.size_modify]
    omega
  · intro w3 gs hk h3 hgs
    have h4 : Kept gs w3 w2 := ⟨hgr.os.trans hk.os, hgr.tape.trans hk.tape, hgr.output.trans hk.output, Nat.le_trans hk.size hgr.size, fun k hk' hn => (hgr.block k (Nat.lt_of_lt_of_le hk' hk.size) (hne k (by omega))).trans (hk.block k hk' hn)⟩
    exact h4.setCell (.inl hgs) va
end Go.Proofs.YtbhmeapnmpgggaaGreatDoor
