/- A region that draws its order, carried by an invariant that each of its operations keeps. No condition. -/
import Derived.Orders
import Derived.WalkKit
namespace Go.Proofs.YtbhmeapnmpgggaaGreatDoor
open Go

section
variable {P : Program} {ops : Array Oper} {Q : Exit → Act → World → Prop}
/-- every edge goes to an operation ahead of it -/
def backB (ops : Array Oper) : Bool := (List.range ops.size).all fun i => ((ops[i]?).map fun o => o.after.all fun e => !Region.binds .any e || decide (e.on < i)).getD true

theorem all_listed (hb : backB ops = true) {listed : Array Bool} (h : Region.ready .any ops listed = []) : ∀ n, ∀ j, j < n → j < ops.size → listed.getD j true = true := by
  intro n
  induction n with
  | zero => intro j hj; omega
  | succ n ih =>
    intro j hj hs
    rcases Nat.lt_or_ge j n with hlt | hge
    · exact ih j hlt hs
    · have hjn : j = n := by omega
      subst hjn
      cases hl : listed.getD j true with
      | true => rfl
      | false =>
        exfalso
        have hm : j ∈ Region.ready .any ops listed := by
          rw [mem_ready]
          refine ⟨hl, ops[j], Array.getElem?_eq_getElem hs, fun e he hbd => ?_⟩
          have hq := List.all_eq_true.1 hb j (List.mem_range.2 hs)
          rw [Array.getElem?_eq_getElem hs] at hq
          simp only [Option.map_some, Option.getD_some] at hq
          have he2 := (Array.all_eq_true_iff_forall_mem.1 hq) e he
          simp [hbd] at he2
          have := ih e.on he2 (by omega)
          rw [Array.getD_eq_getD_getElem?] at this ⊢
          cases hz : listed[e.on]? with
          | none =>
            have h1 : listed.size ≤ e.on := Array.getElem?_eq_none_iff.1 hz
            have h2 : listed[j]? = none := Array.getElem?_eq_none_iff.2 (by omega)
            rw [Array.getD_eq_getD_getElem?, h2] at hl
            simp at hl
          | some b => simpa [hz] using this
        rw [h] at hm
        simp at hm

theorem wpAny_inv (hb : backB ops = true) (I : (Nat → Bool) → Act → World → Prop)
    (hstep : ∀ i o, ops[i]? = some o → ∀ done a w, done i = false → (∀ e ∈ o.after, Region.binds .any e = true → done e.on = true) → I done a w →
      ∀ K : Act → World → Prop, (∀ a' w', I (fun j => if j = i then true else done j) a' w' → K a' w') → wpOp P ops Q i K a w)
    (hend : ∀ done a w, (∀ j, j < ops.size → done j = true) → I done a w → Q .normal a w) :
    ∀ (fuel : Nat) (listed : Array Bool) (a : Act) (w : World), listed.size = ops.size → listed.countP (fun b => !b) ≤ fuel → I (fun j => listed.getD j false) a w → wpAny P .any ops Q fuel listed a w := by
  intro fuel
  have hfin : ∀ (listed : Array Bool) (a : Act) (w : World), listed.size = ops.size → I (fun j => listed.getD j false) a w → Region.ready .any ops listed = [] → Q .normal a w := fun listed a w hs hI hr => by
    refine hend _ a w (fun j hj => ?_) hI
    have := all_listed hb hr ops.size j hj hj
    rw [Array.getD_eq_getD_getElem?, Array.getElem?_eq_getElem (by omega)] at this ⊢
    simpa using this
  induction fuel with
  | zero =>
    intro listed a w hs hc hI
    have hr : Region.ready .any ops listed = [] := by
      cases hq : Region.ready .any ops listed with
      | nil => rfl
      | cons j l =>
        have hm : j ∈ Region.ready .any ops listed := by rw [hq]; simp
        rw [mem_ready] at hm
        obtain ⟨h1, o, h2, _⟩ := hm
        have hj : j < listed.size := by rw [hs]; exact (Array.getElem?_eq_some_iff.1 h2).1
        rw [Array.getD_eq_getD_getElem?, Array.getElem?_eq_getElem hj] at h1
        have h0 : listed.countP (fun b => !b) = 0 := by omega
        rw [Array.countP_eq_zero] at h0
        have := h0 _ (Array.getElem_mem hj)
        simp at h1
        simp [h1] at this
    exact ⟨hr, hfin listed a w hs hI hr⟩
  | succ fuel ih =>
    intro listed a w hs hc hI
    refine ⟨fun hr => hfin listed a w hs hI hr, fun i hi => ?_⟩
    rw [mem_ready] at hi
    obtain ⟨h1, o, h2, h3⟩ := hi
    have hj : i < listed.size := by rw [hs]; exact (Array.getElem?_eq_some_iff.1 h2).1
    have h1' : listed[i] = false := by
      rw [Array.getD_eq_getD_getElem?, Array.getElem?_eq_getElem hj] at h1
      simpa using h1
    refine hstep i o h2 _ a w ?_ h3 hI _ fun a' w' hI' => ?_
    · rw [Array.getD_eq_getD_getElem?, Array.getElem?_eq_getElem hj]; simpa using h1'
    · refine ih _ a' w' (by simpa using hs) ?_ ?_
      · rw [Array.setIfInBounds, dif_pos hj, Array.countP_set]
        simp [h1']
        omega
      · have : (fun j => (listed.setIfInBounds i true).getD j false) = fun j => if j = i then true else listed.getD j false := by
          funext j
          by_cases e : j = i
          · subst e
            rw [Array.getD_eq_getD_getElem?, Array.getElem?_setIfInBounds_self_of_lt hj]
            simp
          · rw [if_neg e, getD_set_ne _ (Ne.symm e)]
        rw [this]
        exact hI'

/-- A region that draws its order, by an invariant that each operation keeps. -/
theorem wp_region_inv {id : Nat} {a : Act} {w : World} (hm : P.follows .mixedOrders = true) (hb : backB ops = true) (I : (Nat → Bool) → Act → World → Prop)
    (h0 : I (fun _ => false) a w.drew)
    (hstep : ∀ i o, ops[i]? = some o → ∀ done a w, done i = false → (∀ e ∈ o.after, Region.binds .any e = true → done e.on = true) → I done a w →
      ∀ K : Act → World → Prop, (∀ a' w', I (fun j => if j = i then true else done j) a' w' → K a' w') → wpOp P ops Q i K a w)
    (hend : ∀ done a w, (∀ j, j < ops.size → done j = true) → I done a w → Q .normal a w) : (Code.region id ops true).wp P Q a w := by
  refine wp_region_any hm (wpAny_inv hb I hstep hend _ _ _ _ (by simp) ?_ ?_)
  · exact Nat.le_trans Array.countP_le_size (by simp)
  · have : (fun j => (Array.replicate ops.size false).getD j false) = fun _ => false := by
      funext j
      rw [Array.getD_eq_getD_getElem?, Array.getElem?_replicate]
      split <;> rfl
    rw [this]
    exact h0
/-- each operation of a list, with its place -/
def eachOp (S : Nat → Oper → Prop) : Nat → List Oper → Prop
  | _, [] => True
  | k, o :: l => S k o ∧ eachOp S (k + 1) l
theorem eachOp_at {S : Nat → Oper → Prop} : ∀ {l : List Oper} {k : Nat}, eachOp S k l → ∀ i o, l[i]? = some o → S (k + i) o
  | [], _, _, i, o, h => by simp at h
  | x :: l, k, hs, 0, o, h => by
    have : x = o := by simpa using h
    subst this
    exact hs.1
  | x :: l, k, hs, i + 1, o, h => by
    have := eachOp_at hs.2 i o (by simpa using h)
    rwa [show k + 1 + i = k + (i + 1) from by omega] at this

/-- A region that draws its order, by an invariant that each operation keeps: an operation at a time. -/
theorem wp_region_each {id : Nat} {l : List Oper} {a : Act} {w : World} (hm : P.follows .mixedOrders = true) (hb : backB l.toArray = true) (I : (Nat → Bool) → Act → World → Prop)
    (h0 : I (fun _ => false) a w.drew)
    (hstep : eachOp (fun i o => ∀ done a w, done i = false → (o.after.toList.all fun e => !Region.binds .any e || done e.on) = true → I done a w →
      ∀ K : Act → World → Prop, (∀ a' w', I (fun j => if j = i then true else done j) a' w' → K a' w') →
        if Region.wanted o (yielded l.toArray a.tmps) then o.wp P a w K Q else K (a.put o.dst undef) w) 0 l)
    (hend : ∀ done a w, (∀ j, j < l.length → done j = true) → I done a w → Q .normal a w) : (Code.region id l.toArray true).wp P Q a w := by
  refine wp_region_inv hm hb I h0 (fun i o ho done a w hd he hI K hK => ?_) (fun done a w hd hI => hend done a w (fun j hj => hd j (by simpa using hj)) hI)
  have := eachOp_at hstep i o (by simpa using ho)
  rw [Nat.zero_add] at this
  have hh := this done a w hd (by
    rw [List.all_eq_true]
    intro e hm
    cases hb : Region.binds .any e
    · rfl
    · simpa using he e (by simpa using hm) hb) hI K hK
  unfold wpOp
  rw [ho]
  show if _ then _ else _
  split
  · rename_i hw; rw [if_pos hw] at hh; exact .inl hh
  · rename_i hw; rw [if_neg hw] at hh; exact hh
theorem step_wp {o : Oper} {y : Nat → Option Bool} {a : Act} {w : World} {K : Act → World → Prop} (hg : o.guard = none) (h : o.wp P a w K Q) : if Region.wanted o y then o.wp P a w K Q else K (a.put o.dst undef) w := by
  rw [if_pos (by simp [Region.wanted, hg])]; exact h
theorem step_wpG {o : Oper} {y : Nat → Option Bool} {a : Act} {w : World} {K : Act → World → Prop} (hg : Region.wanted o y = true) (h : o.wp P a w K Q) : if Region.wanted o y then o.wp P a w K Q else K (a.put o.dst undef) w := by
  rw [if_pos hg]; exact h
theorem wp_call {o : Oper} {a : Act} {w : World} {K : Act → World → Prop} {f : FuncId} {args : Array Value} {R : Ending → World → Prop} (ho : (execOp a.eval o).run P w = .ok (.enter f args) w)
    (hc : Calls P f args w R) (hk : ∀ e w', R e w' → ∃ v, e = .returned v ∧ K (a.put o.dst v) w') : o.wp P a w K Q := by
  unfold Oper.wp
  rw [ho]
  refine Calls.mono hc fun e w' h => ?_
  obtain ⟨v, rfl, hk⟩ := hk e w' h
  exact hk
theorem wp_value {o : Oper} {a : Act} {w : World} {K : Act → World → Prop} (v : Value) (ho : (execOp a.eval o).run P w = .ok (.value v) w) (h : K (a.put o.dst v) w) : o.wp P a w K Q := by
  unfold Oper.wp
  rw [ho]
  exact h
/-- a whole struct is loaded, behind a guard that holds -/
theorem wpList_load_guarded {ops : Array Oper} {rest : List Oper} {o : Oper} {a : Act} {w : World} (hgd : Region.wanted o (yielded ops a.tmps) = true) (ty : TypeId) (x : Operand) (ho : o.op = .load ty x)
    (g : Nat) (hx : a.eval x = .pointer (some ⟨g, 0, none⟩)) (t : TypeId) (cs : Array Value) (fr : Nat × Nat) (d : TypeDesc) (hg : w.heap[g]? = some (.cells cs t fr))
    (hu : P.underlying ty = some d) (hd : (match d with | .struct _ | .array _ _ => true | _ => false) = true) (hi : (P.info? ty).map (·.size) = some cs.size)
    (h : wpList P ops Q rest (a.put o.dst (.agg cs)) w) : wpList P ops Q (o :: rest) a w :=
  wpList_step fun K hK => by rw [if_pos hgd]; exact wp_load_row ty x ho g hx t cs fr d hg hu hd hi (hK _ _ h)
end
end Go.Proofs.YtbhmeapnmpgggaaGreatDoor
