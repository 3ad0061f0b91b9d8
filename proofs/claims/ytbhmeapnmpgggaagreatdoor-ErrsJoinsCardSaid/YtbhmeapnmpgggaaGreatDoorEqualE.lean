/- == of two error values of one plain type. No condition. -/
import Derived.Test.YtbhmeapnmpgggaaGreatDoorWalk
import Derived.Laws.StructEq
import Derived.Deep.RegionHeld2
namespace Go.Proofs.YtbhmeapnmpgggaaGreatDoor
open Go.RowKit

theorem compPlain : (Tryz.prog.info? 106).map (·.comparable) = some true := by kernel_rfl
theorem compTimed : (Tryz.prog.info? 115).map (·.comparable) = some true := by kernel_rfl
theorem eqText (a b : Int) (s t : ByteArray) : ((a == b) && (s.toList == t.toList)) = (decide (a = b) && decide (s = t)) := by
  have h : (s.toList == t.toList) = decide (s = t) := by
    by_cases h : s = t
    · subst h; simp
    · rw [decide_eq_false h]
      simp only [beq_eq_false_iff_ne, ne_eq]
      exact fun e => h (toList_inj e)
  rw [h]
  by_cases h : a = b <;> simp [h]
set_option maxRecDepth 100000 in
theorem eqPlain (a b : Int) (s t : ByteArray) (w : World) : (binOp .eql 68 (.iface 106 (.agg #[.int .i64 a, .string s])) (.iface 106 (.agg #[.int .i64 b, .string t]))).run Tryz.prog w = .ok (.bool (decide (a = b) && decide (s = t))) w := by
  rw [← eqText a b s t]
  cases hi : Tryz.prog.info? 106 with
  | none => have := compPlain; rw [hi] at this; cases this
  | some i =>
    have hcc : i.comparable = true := by simpa [hi] using compPlain
    have u3 := Tryz.underlying2
    have u9 := Tryz.underlying9
    have hst : (Op.equalIn 9999 106 (.agg #[.int .i64 a, .string s]) (.agg #[.int .i64 b, .string t])).run Tryz.prog w = .ok ((a == b) && (s.toList == t.toList)) w := by
      have hS : Tryz.prog.underlying 106 = some (.struct (Tryz.prog.fieldsOf 106)) := by kernel_rfl
      rw [run_equalIn_struct w 9998 106 _ _ hS (by kernel_rfl)]
      simp only [Program.fieldsOf, Tryz.underlying106]
      go_simp
      by_cases h1 : a = b <;> by_cases h2 : s.toList = t.toList <;> simp [h1, h2]
    have h : (Op.equalIn 10000 68 (.iface 106 (.agg #[.int .i64 a, .string s])) (.iface 106 (.agg #[.int .i64 b, .string t]))).run Tryz.prog w = .ok ((a == b) && (s.toList == t.toList)) w := by
      rw [Op.equalIn]
      simp [run_underlying Tryz.underlying68, typeInfo, hi, hcc, hst]
    simp only [binOp]
    simp [Op.equal, Op.maxDepth, h]
set_option maxRecDepth 100000 in
theorem eqTimed (a b : Int) (s t : ByteArray) (w : World) : (binOp .eql 68 (.iface 115 (.agg #[.int .i64 a, .string s])) (.iface 115 (.agg #[.int .i64 b, .string t]))).run Tryz.prog w = .ok (.bool (decide (a = b) && decide (s = t))) w := by
  rw [← eqText a b s t]
  cases hi : Tryz.prog.info? 115 with
  | none => have := compTimed; rw [hi] at this; cases this
  | some i =>
    have hcc : i.comparable = true := by simpa [hi] using compTimed
    have u3 := Tryz.underlying2
    have u9 := Tryz.underlying9
    have hst : (Op.equalIn 9999 115 (.agg #[.int .i64 a, .string s]) (.agg #[.int .i64 b, .string t])).run Tryz.prog w = .ok ((a == b) && (s.toList == t.toList)) w := by
      have hS : Tryz.prog.underlying 115 = some (.struct (Tryz.prog.fieldsOf 115)) := by kernel_rfl
      rw [run_equalIn_struct w 9998 115 _ _ hS (by kernel_rfl)]
      simp only [Program.fieldsOf, Tryz.underlying115]
      go_simp
      by_cases h1 : a = b <;> by_cases h2 : s.toList = t.toList <;> simp [h1, h2]
    have h : (Op.equalIn 10000 68 (.iface 115 (.agg #[.int .i64 a, .string s])) (.iface 115 (.agg #[.int .i64 b, .string t]))).run Tryz.prog w = .ok ((a == b) && (s.toList == t.toList)) w := by
      rw [Op.equalIn]
      simp [run_underlying Tryz.underlying68, typeInfo, hi, hcc, hst]
    simp only [binOp]
    simp [Op.equal, Op.maxDepth, h]
end Go.Proofs.YtbhmeapnmpgggaaGreatDoor
/- errs.equal: the walk. Conditions: both errors lie in the world; their kinds are kinds; the sentinel's variable holds a pointer; of two held data the callee's contract is given. -/
namespace Go.Proofs.YtbhmeapnmpgggaaGreatDoor
open Go.RowKit

/-- == of two errors: what it is, and whether it panics; bq: of two data -/
def E.eqr (bq : D → D → Bool × Bool) (a b : E) : Bool × Bool := if a.k ≠ b.k then (false, false) else if a.k = 1 ∨ a.k = 10 then (decide (a.code = b.code) && decide (a.t = b.t), false)
  else if a.k = 5 then bq a.body b.body else if a.k = 6 then (false, true) else (decide (a.id = b.id), false)
/-- what the sentinel's variable holds -/
def errV (u : Addr) : Value := .iface 296 (.pointer (some u))
def Sen (u : Addr) (w : World) : Prop := w.cell? ⟨0, 0, none⟩ = some (errV u)
theorem Sen.below {u : Addr} {w w' : World} (h : Sen u w) (hb : Below w.heap.size w w') : Sen u w' := (hb.cell (lt_of_cell h)).trans h
def errChain (u : Addr) : List PanicEntry := [{ v := errV u, recovered := false }]
def EqGoes (u : Addr) (r : Bool × Bool) (w : World) (e : Ending) (w' : World) : Prop := Below w.heap.size w w' ∧ e = if r.2 then .panicked (errChain u) else .returned (.bool r.1)

theorem valueC1 (e : E) (h : e.k = 1) (w : World) : Calls Tryz.prog 54 #[e.v] w fun en w' => en = .returned (.iface 106 (.agg #[.int .i64 e.code, .string e.t])) ∧ Below w.heap.size w w' :=
  (valueE_any e w).mono fun en w' ⟨v, he, hv, hb⟩ => ⟨he.trans (by
    unfold EV E.okK at hv
    rcases hv with ⟨a, rfl⟩ | ⟨a, _⟩ | ⟨a, _⟩ | ⟨a, _⟩ | ⟨a, _⟩ | ⟨a, _⟩ | ⟨a, _⟩ | ⟨a, _⟩ | ⟨a, _⟩ | ⟨a, rfl⟩ | ⟨a, _⟩
    case inl => rfl
    all_goals (exfalso; omega)), hb⟩
theorem valueC10 (e : E) (h : e.k = 10) (w : World) : Calls Tryz.prog 54 #[e.v] w fun en w' => en = .returned (.iface 115 (.agg #[.int .i64 e.code, .string e.t])) ∧ Below w.heap.size w w' :=
  (valueE_any e w).mono fun en w' ⟨v, he, hv, hb⟩ => ⟨he.trans (by
    unfold EV E.okK at hv
    rcases hv with ⟨a, rfl⟩ | ⟨a, _⟩ | ⟨a, _⟩ | ⟨a, _⟩ | ⟨a, _⟩ | ⟨a, _⟩ | ⟨a, _⟩ | ⟨a, _⟩ | ⟨a, _⟩ | ⟨a, rfl⟩ | ⟨a, _⟩
    case inr.inr.inr.inr.inr.inr.inr.inr.inr.inl => rfl
    all_goals (exfalso; omega)), hb⟩

set_option maxHeartbeats 2000000 in
set_option maxRecDepth 100000 in
theorem equalE_any (bq : D → D → Bool × Bool) (u : Addr) (a b : E) (w : World) (ha : a.In w) (hb : b.In w) (hs : Sen u w)
    (hD : a.k = 5 → b.k = 5 → ∀ w', Below w.heap.size w w' → Calls Tryz.prog 89 #[a.body.v, b.body.v] w' fun e w2 => e = .returned (.tuple #[.bool (bq a.body b.body).1, .int .i64 (if (bq a.body b.body).2 then 10 else 0)]) ∧ Below w'.heap.size w' w2) :
    Calls Tryz.prog 47 #[a.v, b.v] w (EqGoes u (E.eqr bq a b) w) := by
  have bx0 := Blk.new w 29 a.cs.toArray
  have hal1 := (Below.refl w.heap.size w).alloc (Nat.le_refl _) (.cells a.cs.toArray 29)
  have bx := bx0.alloc (.cells b.cs.toArray 29)
  have by_ := Blk.new' (w := w.alloc (.cells a.cs.toArray 29)) (g := w.heap.size + 1) (by simp) 29 b.cs.toArray
  have hal := hal1.alloc (by simp) (.cells b.cs.toArray 29)
  have hW : ∀ W, W = ((w.alloc (.cells a.cs.toArray 29)).alloc (.cells b.cs.toArray 29)) → Blk W w.heap.size 29 a.cs.toArray ∧ Blk W (w.heap.size + 1) 29 b.cs.toArray ∧ Below w.heap.size w W := fun W h => by subst h; exact ⟨bx, by_, hal⟩
  have HW := Lib.hid hW
  have Hs := Lib.hid hs
  have HD := Lib.hid hD
  have Hin := Lib.hid (And.intro ha hb)
  clear bx0 hal1 bx by_ hal hW hs hD ha hb
  have hR : ∀ w', Below w.heap.size w w' → EqGoes u (E.eqr bq a b) w (if (E.eqr bq a b).2 then .panicked (errChain u) else .returned (.bool (E.eqr bq a b).1)) w' := fun w' h => ⟨h, rfl⟩
  have HR := Lib.hid hR
  clear hR
  have hgo : (∀ W, Blk W w.heap.size 29 a.cs.toArray → Blk W (w.heap.size + 1) 29 b.cs.toArray → Below w.heap.size w W → True) := fun _ _ _ _ => trivial
  clear hgo
  by_cases hk : a.k = b.k
  · by_cases h1 : a.k = 1 ∨ a.k = 10
    · have hr : E.eqr bq a b = (decide (a.code = b.code) && decide (a.t = b.t), false) := by unfold E.eqr; rw [if_neg (by simpa using hk), if_pos h1]
      rw [hr] at HR ⊢
      have hR := Lib.hid (fun w' h => HR.out w' h)
      clear HR hr HD Hin Hs
      rcases h1 with h1 | h1
      · have hv1 := Lib.hid (fun w => valueC1 a h1 w)
        have hv2 := Lib.hid (fun w => valueC1 b (by omega) w)
        have hk' : (a.k != b.k) = false := by simpa using hk
        have H1 := Lib.hid (And.intro h1 hk)
        clear hk h1
        simp only [E.v, E.cs] at HW hv1 hv2 ⊢
        go_enter Tryz.func47, Tryz.ntmps47
        go_upto_region 1 with fail
        obtain ⟨b1, b2, b3⟩ := HW.out _ rfl
        clear HW
        generalize (w.alloc _).alloc _ = W at *
        have c0 := b1.cell 0
        have d0 := b2.cell 0
        have c1 := b1.cell 1
        have d1 := b2.cell 1
        have c2 := b1.cell 2
        have d2 := b2.cell 2
        have c3 := b1.cell 3
        have d3 := b2.cell 3
        have c4 := b1.cell 4
        have d4 := b2.cell 4
        have c5 := b1.cell 5
        have d5 := b2.cell 5
        have c6 := b1.cell 6
        have d6 := b2.cell 6
        have c7 := b1.cell 7
        have d7 := b2.cell 7
        have c8 := b1.cell 8
        have d8 := b2.cell 8
        have c9 := b1.cell 9
        have d9 := b2.cell 9
        have c10 := b1.cell 10
        have d10 := b2.cell 10
        simp at c0 d0 c1 d1 c2 d2 c3 d3 c4 d4 c5 d5 c6 d6 c7 d7 c8 d8 c9 d9 c10 d10
        have hz1 := b1.lt
        have hz2 := b2.lt
        have Hb3 := Lib.hid (And.intro b3 (And.intro b1 b2))
        clear b1 b2 b3
        have H1' := H1.out
        have heq := fun w => eqPlain a.code b.code a.t b.t w
        clear H1
        generalize a.k = k1, a.id = f1, a.code = f2, a.t = f3, a.body.k = f4, a.body.i = f5, a.body.b = f6, a.body.t = f7, a.body.A = f8, a.body.l.length = f9, a.body.c = f10, a.cA = f11, a.codes.length = f12, a.cc = f13, a.A = fA, a.l.length = fl, a.c = fc at *
        generalize b.k = k2, b.id = g1, b.code = g2, b.t = g3, b.body.k = g4, b.body.i = g5, b.body.b = g6, b.body.t = g7, b.body.A = g8, b.body.l.length = g9, b.body.c = g10, b.cA = g11, b.codes.length = g12, b.cc = g13, b.A = gA, b.l.length = gl, b.c = gc at *
        obtain ⟨rfl, rfl⟩ := H1'
        go_upto_region 6 with fail
        have hS : ∀ w', Below W.heap.size W w' → (w'.cell? ⟨w.heap.size, 0, none⟩ = some (.int .i64 1) ∧ w'.cell? ⟨w.heap.size, 1, none⟩ = some (.int .i64 f1) ∧ w'.cell? ⟨w.heap.size, 2, none⟩ = some (.int .i64 f2) ∧ w'.cell? ⟨w.heap.size, 3, none⟩ = some (.string f3) ∧ w'.cell? ⟨w.heap.size, 4, none⟩ = some (.int .i64 f4) ∧ w'.cell? ⟨w.heap.size, 5, none⟩ = some (.int .i64 f5) ∧ w'.cell? ⟨w.heap.size, 6, none⟩ = some (.int .u64 f6) ∧ w'.cell? ⟨w.heap.size, 7, none⟩ = some (.string f7) ∧ w'.cell? ⟨w.heap.size, 8, none⟩ = some (.slice f8 f9 f10) ∧ w'.cell? ⟨w.heap.size, 9, none⟩ = some (.slice f11 f12 f13) ∧ w'.cell? ⟨w.heap.size, 10, none⟩ = some (.slice fA fl fc) ∧ w'.cell? ⟨w.heap.size + 1, 0, none⟩ = some (.int .i64 1) ∧ w'.cell? ⟨w.heap.size + 1, 1, none⟩ = some (.int .i64 g1) ∧ w'.cell? ⟨w.heap.size + 1, 2, none⟩ = some (.int .i64 g2) ∧ w'.cell? ⟨w.heap.size + 1, 3, none⟩ = some (.string g3) ∧ w'.cell? ⟨w.heap.size + 1, 4, none⟩ = some (.int .i64 g4) ∧ w'.cell? ⟨w.heap.size + 1, 5, none⟩ = some (.int .i64 g5) ∧ w'.cell? ⟨w.heap.size + 1, 6, none⟩ = some (.int .u64 g6) ∧ w'.cell? ⟨w.heap.size + 1, 7, none⟩ = some (.string g7) ∧ w'.cell? ⟨w.heap.size + 1, 8, none⟩ = some (.slice g8 g9 g10) ∧ w'.cell? ⟨w.heap.size + 1, 9, none⟩ = some (.slice g11 g12 g13) ∧ w'.cell? ⟨w.heap.size + 1, 10, none⟩ = some (.slice gA gl gc)) := fun w' hb => by
          have B1 := Hb3.out.2.1
          have B2 := Hb3.out.2.2
          exact ⟨(B1.below hb B1.lt).cell 0, (B1.below hb B1.lt).cell 1, (B1.below hb B1.lt).cell 2, (B1.below hb B1.lt).cell 3, (B1.below hb B1.lt).cell 4, (B1.below hb B1.lt).cell 5, (B1.below hb B1.lt).cell 6, (B1.below hb B1.lt).cell 7, (B1.below hb B1.lt).cell 8, (B1.below hb B1.lt).cell 9, (B1.below hb B1.lt).cell 10, (B2.below hb B2.lt).cell 0, (B2.below hb B2.lt).cell 1, (B2.below hb B2.lt).cell 2, (B2.below hb B2.lt).cell 3, (B2.below hb B2.lt).cell 4, (B2.below hb B2.lt).cell 5, (B2.below hb B2.lt).cell 6, (B2.below hb B2.lt).cell 7, (B2.below hb B2.lt).cell 8, (B2.below hb B2.lt).cell 9, (B2.below hb B2.lt).cell 10⟩
        have HS := Lib.hid hS
        clear hS
        have hd0 := Lib.hid (Below.refl W.heap.size W).drew
        go_region_held2 (fun w' => w'.cell? ⟨w.heap.size, 0, none⟩ = some (.int .i64 1) ∧ w'.cell? ⟨w.heap.size, 1, none⟩ = some (.int .i64 f1) ∧ w'.cell? ⟨w.heap.size, 2, none⟩ = some (.int .i64 f2) ∧ w'.cell? ⟨w.heap.size, 3, none⟩ = some (.string f3) ∧ w'.cell? ⟨w.heap.size, 4, none⟩ = some (.int .i64 f4) ∧ w'.cell? ⟨w.heap.size, 5, none⟩ = some (.int .i64 f5) ∧ w'.cell? ⟨w.heap.size, 6, none⟩ = some (.int .u64 f6) ∧ w'.cell? ⟨w.heap.size, 7, none⟩ = some (.string f7) ∧ w'.cell? ⟨w.heap.size, 8, none⟩ = some (.slice f8 f9 f10) ∧ w'.cell? ⟨w.heap.size, 9, none⟩ = some (.slice f11 f12 f13) ∧ w'.cell? ⟨w.heap.size, 10, none⟩ = some (.slice fA fl fc) ∧ w'.cell? ⟨w.heap.size + 1, 0, none⟩ = some (.int .i64 1) ∧ w'.cell? ⟨w.heap.size + 1, 1, none⟩ = some (.int .i64 g1) ∧ w'.cell? ⟨w.heap.size + 1, 2, none⟩ = some (.int .i64 g2) ∧ w'.cell? ⟨w.heap.size + 1, 3, none⟩ = some (.string g3) ∧ w'.cell? ⟨w.heap.size + 1, 4, none⟩ = some (.int .i64 g4) ∧ w'.cell? ⟨w.heap.size + 1, 5, none⟩ = some (.int .i64 g5) ∧ w'.cell? ⟨w.heap.size + 1, 6, none⟩ = some (.int .u64 g6) ∧ w'.cell? ⟨w.heap.size + 1, 7, none⟩ = some (.string g7) ∧ w'.cell? ⟨w.heap.size + 1, 8, none⟩ = some (.slice g8 g9 g10) ∧ w'.cell? ⟨w.heap.size + 1, 9, none⟩ = some (.slice g11 g12 g13) ∧ w'.cell? ⟨w.heap.size + 1, 10, none⟩ = some (.slice gA gl gc))
          (first
            | go_keep
            | exact HS.out _ hb2.out
            | exact HS.out _ hb1.out)
          (first
            | (have hb1x := hb1
               clear hb1x
               go_at_call 54
               refine (hv2.out _).mono ?_
               rintro e w2 ⟨rfl, hb2'⟩
               have hb2 := Lib.hid (hb1.out.trans (hb2'.mono hb1.out.size))
               clear hb2')
            | (go_at_call 54
               refine (hv1.out _).mono ?_
               rintro e w1 ⟨rfl, hb1'⟩
               have hb1 := Lib.hid (hd0.out.trans hb1')
               clear hb1'))
        all_goals
          have hq := Lib.hid (hR.out _ (Hb3.out.1.trans (hb2.out.mono Hb3.out.1.size)))
          clear c0 d0 c1 d1 c2 d2 c3 d3 c4 d4 c5 d5 c6 d6 c7 d7 c8 d8 c9 d9 c10 d10 HS hv1 hv2 heq
          go_wp2_with fail
          go_ret
          exact hq.out
      · have hv1 := Lib.hid (fun w => valueC10 a h1 w)
        have hv2 := Lib.hid (fun w => valueC10 b (by omega) w)
        have hk' : (a.k != b.k) = false := by simpa using hk
        have H1 := Lib.hid (And.intro h1 hk)
        clear hk h1
        simp only [E.v, E.cs] at HW hv1 hv2 ⊢
        go_enter Tryz.func47, Tryz.ntmps47
        go_upto_region 1 with fail
        obtain ⟨b1, b2, b3⟩ := HW.out _ rfl
        clear HW
        generalize (w.alloc _).alloc _ = W at *
        have c0 := b1.cell 0
        have d0 := b2.cell 0
        have c1 := b1.cell 1
        have d1 := b2.cell 1
        have c2 := b1.cell 2
        have d2 := b2.cell 2
        have c3 := b1.cell 3
        have d3 := b2.cell 3
        have c4 := b1.cell 4
        have d4 := b2.cell 4
        have c5 := b1.cell 5
        have d5 := b2.cell 5
        have c6 := b1.cell 6
        have d6 := b2.cell 6
        have c7 := b1.cell 7
        have d7 := b2.cell 7
        have c8 := b1.cell 8
        have d8 := b2.cell 8
        have c9 := b1.cell 9
        have d9 := b2.cell 9
        have c10 := b1.cell 10
        have d10 := b2.cell 10
        simp at c0 d0 c1 d1 c2 d2 c3 d3 c4 d4 c5 d5 c6 d6 c7 d7 c8 d8 c9 d9 c10 d10
        have hz1 := b1.lt
        have hz2 := b2.lt
        have Hb3 := Lib.hid (And.intro b3 (And.intro b1 b2))
        clear b1 b2 b3
        have H1' := H1.out
        have heq := fun w => eqTimed a.code b.code a.t b.t w
        clear H1
        generalize a.k = k1, a.id = f1, a.code = f2, a.t = f3, a.body.k = f4, a.body.i = f5, a.body.b = f6, a.body.t = f7, a.body.A = f8, a.body.l.length = f9, a.body.c = f10, a.cA = f11, a.codes.length = f12, a.cc = f13, a.A = fA, a.l.length = fl, a.c = fc at *
        generalize b.k = k2, b.id = g1, b.code = g2, b.t = g3, b.body.k = g4, b.body.i = g5, b.body.b = g6, b.body.t = g7, b.body.A = g8, b.body.l.length = g9, b.body.c = g10, b.cA = g11, b.codes.length = g12, b.cc = g13, b.A = gA, b.l.length = gl, b.c = gc at *
        obtain ⟨rfl, rfl⟩ := H1'
        go_upto_region 6 with fail
        have hS : ∀ w', Below W.heap.size W w' → (w'.cell? ⟨w.heap.size, 0, none⟩ = some (.int .i64 10) ∧ w'.cell? ⟨w.heap.size, 1, none⟩ = some (.int .i64 f1) ∧ w'.cell? ⟨w.heap.size, 2, none⟩ = some (.int .i64 f2) ∧ w'.cell? ⟨w.heap.size, 3, none⟩ = some (.string f3) ∧ w'.cell? ⟨w.heap.size, 4, none⟩ = some (.int .i64 f4) ∧ w'.cell? ⟨w.heap.size, 5, none⟩ = some (.int .i64 f5) ∧ w'.cell? ⟨w.heap.size, 6, none⟩ = some (.int .u64 f6) ∧ w'.cell? ⟨w.heap.size, 7, none⟩ = some (.string f7) ∧ w'.cell? ⟨w.heap.size, 8, none⟩ = some (.slice f8 f9 f10) ∧ w'.cell? ⟨w.heap.size, 9, none⟩ = some (.slice f11 f12 f13) ∧ w'.cell? ⟨w.heap.size, 10, none⟩ = some (.slice fA fl fc) ∧ w'.cell? ⟨w.heap.size + 1, 0, none⟩ = some (.int .i64 10) ∧ w'.cell? ⟨w.heap.size + 1, 1, none⟩ = some (.int .i64 g1) ∧ w'.cell? ⟨w.heap.size + 1, 2, none⟩ = some (.int .i64 g2) ∧ w'.cell? ⟨w.heap.size + 1, 3, none⟩ = some (.string g3) ∧ w'.cell? ⟨w.heap.size + 1, 4, none⟩ = some (.int .i64 g4) ∧ w'.cell? ⟨w.heap.size + 1, 5, none⟩ = some (.int .i64 g5) ∧ w'.cell? ⟨w.heap.size + 1, 6, none⟩ = some (.int .u64 g6) ∧ w'.cell? ⟨w.heap.size + 1, 7, none⟩ = some (.string g7) ∧ w'.cell? ⟨w.heap.size + 1, 8, none⟩ = some (.slice g8 g9 g10) ∧ w'.cell? ⟨w.heap.size + 1, 9, none⟩ = some (.slice g11 g12 g13) ∧ w'.cell? ⟨w.heap.size + 1, 10, none⟩ = some (.slice gA gl gc)) := fun w' hb => by
          have B1 := Hb3.out.2.1
          have B2 := Hb3.out.2.2
          exact ⟨(B1.below hb B1.lt).cell 0, (B1.below hb B1.lt).cell 1, (B1.below hb B1.lt).cell 2, (B1.below hb B1.lt).cell 3, (B1.below hb B1.lt).cell 4, (B1.below hb B1.lt).cell 5, (B1.below hb B1.lt).cell 6, (B1.below hb B1.lt).cell 7, (B1.below hb B1.lt).cell 8, (B1.below hb B1.lt).cell 9, (B1.below hb B1.lt).cell 10, (B2.below hb B2.lt).cell 0, (B2.below hb B2.lt).cell 1, (B2.below hb B2.lt).cell 2, (B2.below hb B2.lt).cell 3, (B2.below hb B2.lt).cell 4, (B2.below hb B2.lt).cell 5, (B2.below hb B2.lt).cell 6, (B2.below hb B2.lt).cell 7, (B2.below hb B2.lt).cell 8, (B2.below hb B2.lt).cell 9, (B2.below hb B2.lt).cell 10⟩
        have HS := Lib.hid hS
        clear hS
        have hd0 := Lib.hid (Below.refl W.heap.size W).drew
        go_region_held2 (fun w' => w'.cell? ⟨w.heap.size, 0, none⟩ = some (.int .i64 10) ∧ w'.cell? ⟨w.heap.size, 1, none⟩ = some (.int .i64 f1) ∧ w'.cell? ⟨w.heap.size, 2, none⟩ = some (.int .i64 f2) ∧ w'.cell? ⟨w.heap.size, 3, none⟩ = some (.string f3) ∧ w'.cell? ⟨w.heap.size, 4, none⟩ = some (.int .i64 f4) ∧ w'.cell? ⟨w.heap.size, 5, none⟩ = some (.int .i64 f5) ∧ w'.cell? ⟨w.heap.size, 6, none⟩ = some (.int .u64 f6) ∧ w'.cell? ⟨w.heap.size, 7, none⟩ = some (.string f7) ∧ w'.cell? ⟨w.heap.size, 8, none⟩ = some (.slice f8 f9 f10) ∧ w'.cell? ⟨w.heap.size, 9, none⟩ = some (.slice f11 f12 f13) ∧ w'.cell? ⟨w.heap.size, 10, none⟩ = some (.slice fA fl fc) ∧ w'.cell? ⟨w.heap.size + 1, 0, none⟩ = some (.int .i64 10) ∧ w'.cell? ⟨w.heap.size + 1, 1, none⟩ = some (.int .i64 g1) ∧ w'.cell? ⟨w.heap.size + 1, 2, none⟩ = some (.int .i64 g2) ∧ w'.cell? ⟨w.heap.size + 1, 3, none⟩ = some (.string g3) ∧ w'.cell? ⟨w.heap.size + 1, 4, none⟩ = some (.int .i64 g4) ∧ w'.cell? ⟨w.heap.size + 1, 5, none⟩ = some (.int .i64 g5) ∧ w'.cell? ⟨w.heap.size + 1, 6, none⟩ = some (.int .u64 g6) ∧ w'.cell? ⟨w.heap.size + 1, 7, none⟩ = some (.string g7) ∧ w'.cell? ⟨w.heap.size + 1, 8, none⟩ = some (.slice g8 g9 g10) ∧ w'.cell? ⟨w.heap.size + 1, 9, none⟩ = some (.slice g11 g12 g13) ∧ w'.cell? ⟨w.heap.size + 1, 10, none⟩ = some (.slice gA gl gc))
          (first
            | go_keep
            | exact HS.out _ hb2.out
            | exact HS.out _ hb1.out)
          (first
            | (have hb1x := hb1
               clear hb1x
               go_at_call 54
               refine (hv2.out _).mono ?_
               rintro e w2 ⟨rfl, hb2'⟩
               have hb2 := Lib.hid (hb1.out.trans (hb2'.mono hb1.out.size))
               clear hb2')
            | (go_at_call 54
               refine (hv1.out _).mono ?_
               rintro e w1 ⟨rfl, hb1'⟩
               have hb1 := Lib.hid (hd0.out.trans hb1')
               clear hb1'))
        all_goals
          have hq := Lib.hid (hR.out _ (Hb3.out.1.trans (hb2.out.mono Hb3.out.1.size)))
          clear c0 d0 c1 d1 c2 d2 c3 d3 c4 d4 c5 d5 c6 d6 c7 d7 c8 d8 c9 d9 c10 d10 HS hv1 hv2 heq
          go_wp2_with fail
          go_ret
          exact hq.out
    · by_cases h5 : a.k = 5
      · have hr : E.eqr bq a b = bq a.body b.body := by unfold E.eqr; rw [if_neg (by simpa using hk), if_neg h1, if_pos h5]
        rw [hr] at HR ⊢
        have hR := Lib.hid (fun w' h => HR.out w' h)
        have hD := Lib.hid (HD.out h5 (by omega))
        clear HR hr HD Hin
        simp only [E.v, E.cs, D.v, D.cs] at HW hD ⊢
        have hk' : (a.k != b.k) = false := by simpa using hk
        have H5 := Lib.hid h5
        clear hk h5
        go_enter Tryz.func47, Tryz.ntmps47
        go_upto_region 1 with fail
        obtain ⟨b1, b2, b3⟩ := HW.out _ rfl
        clear HW
        generalize (w.alloc _).alloc _ = W at *
        have c0 := b1.cell 0
        have d0 := b2.cell 0
        have c4 := b1.cell 4
        have d4 := b2.cell 4
        have c5 := b1.cell 5
        have d5 := b2.cell 5
        have c6 := b1.cell 6
        have d6 := b2.cell 6
        have c7 := b1.cell 7
        have d7 := b2.cell 7
        have c8 := b1.cell 8
        have d8 := b2.cell 8
        simp at c0 d0 c4 d4 c5 d5 c6 d6 c7 d7 c8 d8
        have Hb3 := Lib.hid b3
        have hD2 := Lib.hid (hD.out _ b3)
        have hs := Hs.out.below b3
        have Hs2 := Lib.hid hs
        clear b1 b2 b3 h1 Hs hs hD
        generalize a.k = k, b.k = k2 at *
        generalize bq a.body b.body = r at *
        obtain ⟨r1, r2⟩ := r
        have h5 := H5.out
        subst h5
        cases r2
        · go_wp2_with fail
          refine hD2.out.mono ?_
          rintro e w2 ⟨rfl, hb2⟩
          have hq := Lib.hid (hR.out _ (Hb3.out.trans (hb2.mono Hb3.out.size)))
          clear hb2 hD2
          go_wp2_with fail
          go_ret
          exact hq.out
        · go_wp2_with fail
          refine hD2.out.mono ?_
          rintro e w2 ⟨rfl, hb2⟩
          have hq := Lib.hid (hR.out _ (Hb3.out.trans (hb2.mono Hb3.out.size)))
          have hs := Hs2.out.below hb2
          unfold Sen errV at hs
          unfold errChain errV at hq
          clear hb2 hD2 c0 d0 c4 c5 c6 c7 c8 d4 d5 d6 d7 d8
          go_wp2_with fail
          exact ⟨rfl, hq.out⟩
      · by_cases h6 : a.k = 6
        · have hr : E.eqr bq a b = (false, true) := by unfold E.eqr; rw [if_neg (by simpa using hk), if_neg h1, if_neg h5, if_pos h6]
          rw [hr] at HR ⊢
          have hR := Lib.hid (fun w' h => HR.out w' h)
          clear HR hr HD Hin
          simp only [E.v, E.cs] at HW ⊢
          have hk' : (a.k != b.k) = false := by simpa using hk
          have H6 := Lib.hid h6
          clear hk h6
          go_enter Tryz.func47, Tryz.ntmps47
          go_upto_region 1 with fail
          obtain ⟨b1, b2, b3⟩ := HW.out _ rfl
          clear HW
          generalize (w.alloc _).alloc _ = W at *
          have c0 := b1.cell 0
          have d0 := b2.cell 0
          simp at c0 d0
          have hq := Lib.hid (hR.out _ b3)
          have hs := Hs.out.below b3
          unfold Sen errV at hs
          unfold errChain errV at hq
          clear b1 b2 b3 hR h1 h5 Hs
          generalize a.k = k, b.k = k2 at *
          have h6 := H6.out
          subst h6
          go_wp2_with fail
          exact ⟨rfl, hq.out⟩
        · have hr : E.eqr bq a b = (decide (a.id = b.id), false) := by unfold E.eqr; rw [if_neg (by simpa using hk), if_neg h1, if_neg h5, if_neg h6]
          rw [hr] at HR ⊢
          have hR := Lib.hid (fun w' h => HR.out w' h)
          clear HR hr HD Hs Hin
          simp only [E.v, E.cs] at HW ⊢
          have hk' : (a.k != b.k) = false := by simpa using hk
          clear hk
          go_enter Tryz.func47, Tryz.ntmps47
          go_upto_region 1 with fail
          obtain ⟨b1, b2, b3⟩ := HW.out _ rfl
          clear HW
          generalize (w.alloc _).alloc _ = W at *
          have c0 := b1.cell 0
          have c1 := b1.cell 1
          have d0 := b2.cell 0
          have d1 := b2.cell 1
          simp at c0 c1 d0 d1
          have hq := Lib.hid (hR.out _ b3)
          clear b1 b2 b3 hR
          generalize a.k = k, b.k = k2, a.id = i1, b.id = i2 at *
          have k1 : (k == 1) = false := by simp only [beq_eq_false_iff_ne, ne_eq]; omega
          have k10 : (k == 10) = false := by simp only [beq_eq_false_iff_ne, ne_eq]; omega
          have k5 : (k == 5) = false := by simpa using h5
          have k6 : (k == 6) = false := by simpa using h6
          go_wp2_with fail
          go_ret
          exact hq.out
  · have hr : E.eqr bq a b = (false, false) := if_pos hk
    rw [hr] at HR ⊢
    have hR := Lib.hid (fun w' h => HR.out w' h)
    have hk' : (a.k != b.k) = true := by simpa using hk
    clear hr HD Hs Hin HR
    simp only [E.v, E.cs] at HW ⊢
    go_enter Tryz.func47, Tryz.ntmps47
    go_upto_region 1 with fail
    obtain ⟨b1, b2, b3⟩ := HW.out _ rfl
    clear HW
    generalize (w.alloc _).alloc _ = W at *
    have c0 := b1.cell 0
    have d0 := b2.cell 0
    simp at c0 d0
    have hq := Lib.hid (hR.out _ b3)
    clear b1 b2 b3 hR
    generalize a.k = k1, b.k = k2 at *
    go_wp2_with fail
    go_ret
    exact hq.out
end Go.Proofs.YtbhmeapnmpgggaaGreatDoor
