/- errs.Is's inner closure: the walk. Conditions: what PIs says; of two held data the callee's contract is given. -/
import Derived.Test.YtbhmeapnmpgggaaGreatDoorEqualE
import Derived.Test.YtbhmeapnmpgggaaGreatDoorMadeV
import Derived.Test.YtbhmeapnmpgggaaGreatDoorLikeIs2
import Derived.Test.YtbhmeapnmpgggaaGreatDoorWalkE
namespace Go.Proofs.YtbhmeapnmpgggaaGreatDoor
open Go.RowKit

theorem E.fit_id {e : E} (h : e.fit = true) : (E.fId e.k = true ↔ 1 ≤ e.id) ∧ (E.fId e.k = true ∨ e.id = 0) := by
  unfold E.fit E.head at h
  rw [Bool.and_eq_true, Bool.and_eq_true, Bool.and_eq_true] at h
  have := of_decide_eq_true h.1.1.2
  exact ⟨this.1, this.2.1⟩
theorem E.made_k (e : E) : e.made.k = e.k := by
  unfold E.made
  split
  · rfl
  · split
    · rename_i h; exact h.symm
    · split
      · rename_i h; exact h.symm
      · rfl
theorem E.eqr_made (bq : D → D → Bool × Bool) (e t : E) (h : e.right = true) : E.eqr bq e.made t = E.eqr bq e t := by
  have hid := E.fit_id (E.right_fit h)
  unfold E.eqr
  rw [E.made_k]
  by_cases h1 : e.k = 1 ∨ e.k = 10
  · rw [show e.made = .mk e.k 0 e.code e.t D.zero none 0 [] none 0 [] from if_pos h1, if_pos h1, if_pos h1]; rfl
  · by_cases h6 : e.k = 6
    · rw [if_neg h1, if_neg h1, if_neg (show ¬ e.k = 5 by omega), if_neg (show ¬ e.k = 5 by omega), if_pos h6, if_pos h6]
    · by_cases h7 : e.k = 7
      · have hm : e.made = .mk 7 0 0 ⟨#[]⟩ D.zero none 0 [] none 0 [] := by unfold E.made; rw [if_neg h1, if_neg h6, if_pos h7]
        have h0 : e.id = 0 := by
          rcases hid.2 with a | a
          · rw [h7] at a; cases a
          · exact a
        rw [if_neg h1, if_neg h1, if_neg (show ¬ e.k = 5 by omega), if_neg (show ¬ e.k = 5 by omega), if_neg h6, if_neg h6, hm, h0]
        rfl
      · rw [E.made_self (by omega)]

/-- what the inner closure of Is does: the state: found -/
def stIs (bq : D → D → Bool × Bool) (t : E) (s : Bool) (e : E) (_ : List Int) : Bool × Nat :=
  if t.k ≠ 6 ∧ (E.eqr bq e t).2 then (s, 2) else
  if (t.k ≠ 6 ∧ (E.eqr bq e t).1) ∨ (e.k = 8 ∧ e.saysC t) then (true, 1) else (false, 0)
/-- the contract of datum.Equal, of two right data -/
def DEq (bq : D → D → Bool × Bool) : Prop := ∀ (x y : D) (w : World), x.In w → y.In w → x.Ok → y.Ok →
  Calls Tryz.prog 89 #[x.v, y.v] w fun e w2 => e = .returned (.tuple #[.bool (bq x y).1, .int .i64 (if (bq x y).2 then 10 else 0)]) ∧ Below w.heap.size w w2

section
variable (u : Addr) (t : E) (gt gf gv : Nat) (tv : Value)
structure PIs (s : Bool) (w : World) : Prop where
  bf : Blk w gf 4 #[.bool s]
  bt : Blk w gt 29 t.cs.toArray
  bv : Blk w gv 68 #[tv]
  ev : EVn [gf] w t tv
  tin : t.In w
  sen : Sen u w
end
section
variable {u : Addr} {t : E} {gt gf gv : Nat} {tv : Value}
theorem PIs.below {s : Bool} {w w' : World} (h : PIs u t gt gf gv tv s w) (hb : Below w.heap.size w w') : PIs u t gt gf gv tv s w' :=
  ⟨h.bf.below hb h.bf.lt, h.bt.below hb h.bt.lt, h.bv.below hb h.bv.lt, h.ev.below hb, h.tin.below hb, h.sen.below hb⟩
theorem Kept.set1 {gf : Nat} {w : World} (v : Value) : Kept [gf] w (w.setCell ⟨gf, 0, none⟩ v) := (Kept.refl _ _).setCell (.inl (by simp)) v
theorem PIs.set_ {s : Bool} {w : World} (h : PIs u t gt gf gv tv s w) (h1 : gt ≠ gf) (h2 : gv ≠ gf) (h3 : t.Lo gf) (h4 : 0 < gf) (b : Bool) : PIs u t gt gf gv tv b (w.setCell ⟨gf, 0, none⟩ (.bool b)) :=
  ⟨by have := h.bf.set_ 0 (.bool b); simpa using this, h.bt.far h1 _, h.bv.far h2 _, h.ev.kept (Kept.set1 _), h.tin.below' ((Kept.set1 _).below (B := gf) (Nat.le_of_lt h.bf.lt) (by simp)) h3,
   (Kept.set1 (.bool b)).cell (by simp; omega) h.sen⟩
end
theorem EV.notLike {B : Nat} {w : World} {e : E} {v : Value} (hv : EV B w e v) (h0 : e.k ≠ 0) (hk : E.okK e.k) (h8 : e.k ≠ 8) :
    ∀ w', (Instr.typeAssert v 68 75 true).run Tryz.prog w' = .ok (.tuple #[.nilIface, .bool false]) w' := by
  unfold EV at hv
  rcases hv with ⟨a, rfl⟩ | ⟨a, g, b, rfl, d⟩ | ⟨a, g, b, rfl, d⟩ | ⟨a, g, b, rfl, d⟩ | ⟨a, g, b, rfl, d⟩ | ⟨a, rfl⟩ | ⟨a, rfl⟩ | ⟨a, g, b, rfl, d⟩ | ⟨a, g, b, rfl, d⟩ | ⟨a, rfl⟩ | ⟨a, rfl⟩
  · exact asPlain6 _
  · exact asPtr6 _
  · exact asWrap6 _
  · exact asMany6 _
  · exact asHold6 _
  · exact asList6 _
  · exact asPtr6 _
  · exact absurd a h8
  · exact asAs6 _
  · exact asTime6 _
  · exact absurd a (by rintro (a | a); exact a hk; exact h0 a)
theorem methodIs (g : Nat) : ∀ w, (method 450 113 (.pointer (some ⟨g, 0, none⟩)) "Is").run Tryz.prog w = .ok (218, .pointer (some ⟨g, 0, none⟩)) w := fun _ => by kernel_rfl
end Go.Proofs.YtbhmeapnmpgggaaGreatDoor
/- errs.Is's inner closure: the walk. Conditions: what PIs says; of two held data the callee's contract is given. -/
namespace Go.Proofs.YtbhmeapnmpgggaaGreatDoor
open Go.RowKit

set_option maxHeartbeats 4000000 in
set_option maxRecDepth 100000 in
theorem isDo_bad {bq : D → D → Bool × Bool} {u : Addr} {t : E} {gt gf gv : Nat} {tv : Value} (htr : t.right = true) (_ht0 : t.k ≠ 0) (_hlo : t.Lo gf) (n1 : gt ≠ gf) (_n2 : gv ≠ gf) (_n3 : 0 < gf) (hD : t.k = 5 → DEq bq)
    (s : Bool) (e : E) (way : List Int) (v : Value) (ao : Option Addr) (c : Nat) (w : World) (hs : PIs u t gt gf gv tv s w) (he : e.In w) (_hel : e.Lo gf) (her : e.right = true) (he0 : e.k ≠ 0) (hv : EVn [gf] w e v) (h6 : t.k ≠ 6) (hbad : (E.eqr bq e t).2 = true) :
    Calls Tryz.prog 57 #[v, .slice ao way.length c, .pointer (some ⟨gt, 0, none⟩), .pointer (some ⟨gf, 0, none⟩), .pointer (some ⟨gv, 0, none⟩)] w (fun en w' => Kept [gf] w w' ∧ en = .panicked (errChain u) ∧ PIs u t gt gf gv tv s w') := by
  have hok := E.right_ok her
  have hB1 := hs.bt
  obtain ⟨T, y, fm, hvT, hTA, hM, hcf, hC⟩ := hv.1.holds he0 hok
  have hE : ∀ w', Below w.heap.size w w' → Calls Tryz.prog 47 #[e.made.v, t.v] w' (EqGoes u (E.eqr bq e t) w') := fun w' hb => by
    rw [← E.eqr_made bq e t her]
    refine equalE_any bq u e.made t w' (E.made_in (he.below hb)) (hs.tin.below hb) (hs.sen.below hb) fun h1 h2 w2 hb2 => ?_
    rw [E.made_k] at h1
    rw [E.made_self (by omega)]
    exact hD h2 _ _ _ ((he.below hb).bod.below hb2) ((hs.tin.below hb).bod.below hb2) (E.fit_body (E.right_fit her) h1) (E.fit_body (E.right_fit htr) h2)
  have HE := Lib.hid hE
  have HS0 := Lib.hid hs
  have hC' : ∀ w', Below w.heap.size w w' → Calls Tryz.prog fm #[y] w' (Ret e.made.v w') := hC
  have HC := Lib.hid hC'
  have hS : ∀ w', Below w.heap.size w w' → (w'.cell? ⟨gt, 0, none⟩ = some (.int .i64 t.k) ∧ w'.cell? ⟨gt, 1, none⟩ = some (.int .i64 t.id) ∧ w'.cell? ⟨gt, 2, none⟩ = some (.int .i64 t.code) ∧ w'.cell? ⟨gt, 3, none⟩ = some (.string t.t) ∧ w'.cell? ⟨gt, 4, none⟩ = some (.int .i64 t.body.k) ∧ w'.cell? ⟨gt, 5, none⟩ = some (.int .i64 t.body.i) ∧ w'.cell? ⟨gt, 6, none⟩ = some (.int .u64 t.body.b) ∧ w'.cell? ⟨gt, 7, none⟩ = some (.string t.body.t) ∧ w'.cell? ⟨gt, 8, none⟩ = some (.slice t.body.A t.body.l.length t.body.c) ∧ w'.cell? ⟨gt, 9, none⟩ = some (.slice t.cA t.codes.length t.cc) ∧ w'.cell? ⟨gt, 10, none⟩ = some (.slice t.A t.l.length t.c)) := fun w' hb => by
    have B1 := hB1
    exact ⟨(B1.below hb B1.lt).cell 0, (B1.below hb B1.lt).cell 1, (B1.below hb B1.lt).cell 2, (B1.below hb B1.lt).cell 3, (B1.below hb B1.lt).cell 4, (B1.below hb B1.lt).cell 5, (B1.below hb B1.lt).cell 6, (B1.below hb B1.lt).cell 7, (B1.below hb B1.lt).cell 8, (B1.below hb B1.lt).cell 9, (B1.below hb B1.lt).cell 10⟩
  have HS := Lib.hid hS
  have hS0 := hS w (Below.refl _ _)
  have hz := hB1.lt
  have ff := hs.bf.frozen 0
  have cf := hs.bf.cell 0
  have hfl := hs.bf.lt
  simp at cf
  have n1' : gf ≠ gt := fun e => n1 e.symm
  have hdr := Lib.hid (Below.refl w.heap.size w).drew
  have h6' : (t.k != 6) = true := by simpa using h6
  clear hE hs hv he _hel her hC hC' hS hB1 hok he0 h6 hD htr _hlo
  simp only [E.v, E.cs] at HE HC
  generalize t.k = k1, t.id = f1, t.code = f2, t.t = f3, t.body.k = f4, t.body.i = f5, t.body.b = f6, t.body.t = f7, t.body.A = f8, t.body.l.length = f9, t.body.c = f10, t.cA = f11, t.codes.length = f12, t.cc = f13, t.A = fA, t.l.length = fl, t.c = fc at *
  generalize e.made.k = g0, e.made.id = g1, e.made.code = g2, e.made.t = g3, e.made.body.k = g4, e.made.body.i = g5, e.made.body.b = g6, e.made.body.t = g7, e.made.body.A = g8, e.made.body.l.length = g9, e.made.body.c = g10, e.made.cA = g11, e.made.codes.length = g12, e.made.cc = g13, e.made.A = gA, e.made.l.length = gl, e.made.c = gc at *
  generalize E.eqr bq e t = r at *
  obtain ⟨r1, r2⟩ := r
  simp only at hbad
  subst hbad
  obtain ⟨c0, c1, c2, c3, c4, c5, c6, c7, c8, c9, c10⟩ := hS0
  subst hvT
  go_enter Tryz.func57, Tryz.ntmps57
  go_upto_region 1 with fail
  go_region_held2 (fun w' => w'.cell? ⟨gt, 0, none⟩ = some (.int .i64 k1) ∧ w'.cell? ⟨gt, 1, none⟩ = some (.int .i64 f1) ∧ w'.cell? ⟨gt, 2, none⟩ = some (.int .i64 f2) ∧ w'.cell? ⟨gt, 3, none⟩ = some (.string f3) ∧ w'.cell? ⟨gt, 4, none⟩ = some (.int .i64 f4) ∧ w'.cell? ⟨gt, 5, none⟩ = some (.int .i64 f5) ∧ w'.cell? ⟨gt, 6, none⟩ = some (.int .u64 f6) ∧ w'.cell? ⟨gt, 7, none⟩ = some (.string f7) ∧ w'.cell? ⟨gt, 8, none⟩ = some (.slice f8 f9 f10) ∧ w'.cell? ⟨gt, 9, none⟩ = some (.slice f11 f12 f13) ∧ w'.cell? ⟨gt, 10, none⟩ = some (.slice fA fl fc))
        (first
          | go_keep
          | exact HS.out _ hb2.out
          | exact HS.out _ hb1.out
          | exact hf.out.elim)
        (first
          | (have hb1x := hb1
             clear hb1x
             go_at_call 47
             refine (HE.out _ hb1.out).mono (fun en w2 h => Or.inl (b := ∃ x, en = .returned (.bool x) ∧ False) h) |>.mono ?_
             rintro en w2 (⟨hb2', he2⟩ | ⟨x2, rfl, hf'⟩)
             · have he2' : en = .panicked (errChain u) := he2
               clear he2
               subst he2'
               exact ⟨rfl, Kept.of_below (hb1.out.trans (hb2'.mono hb1.out.size)) _, rfl, HS0.out.below (hb1.out.trans (hb2'.mono hb1.out.size))⟩
             have hf := Lib.hid hf'
             have cf2 : w2.cell? ⟨gf, 0, none⟩ = some (.bool s) := hf'.elim
             have ff2 : w2.frozen? ⟨gf, 0, none⟩ = false := hf'.elim
             clear hf')
          | (refine (HC.out _ hdr.out).mono ?_
             rintro en w1 ⟨rfl, hb1'⟩
             have hb1 := Lib.hid (hdr.out.trans hb1')
             clear hb1'))
  all_goals exact hf.out.elim

set_option maxHeartbeats 4000000 in
set_option maxRecDepth 100000 in
theorem isDo_good {bq : D → D → Bool × Bool} {u : Addr} {t : E} {gt gf gv : Nat} {tv : Value} (htr : t.right = true) (ht0 : t.k ≠ 0) (hlo : t.Lo gf) (n1 : gt ≠ gf) (n2 : gv ≠ gf) (n3 : 0 < gf) (hD : t.k = 5 → DEq bq)
    (s : Bool) (e : E) (way : List Int) (v : Value) (ao : Option Addr) (c : Nat) (w : World) (hs : PIs u t gt gf gv tv s w) (he : e.In w) (hel : e.Lo gf) (her : e.right = true) (he0 : e.k ≠ 0) (hv : EVn [gf] w e v) (hgood : ¬ (t.k ≠ 6 ∧ (E.eqr bq e t).2 = true)) (q : Bool) (hq : q = (decide (t.k ≠ 6) && (E.eqr bq e t).1)) :
    Calls Tryz.prog 57 #[v, .slice ao way.length c, .pointer (some ⟨gt, 0, none⟩), .pointer (some ⟨gf, 0, none⟩), .pointer (some ⟨gv, 0, none⟩)] w (fun en w' => Kept [gf] w w' ∧ en = .returned (.bool (!(q || (decide (e.k = 8) && e.saysC t)))) ∧ PIs u t gt gf gv tv (q || (decide (e.k = 8) && e.saysC t)) w') := by
  have hok := E.right_ok her
  have hB1 := hs.bt
  obtain ⟨T, y, fm, hvT, hTA, hM, hcf, hC⟩ := hv.1.holds he0 hok
  have hE : ∀ w', Below w.heap.size w w' → Calls Tryz.prog 47 #[e.made.v, t.v] w' (EqGoes u (E.eqr bq e t) w') := fun w' hb => by
    rw [← E.eqr_made bq e t her]
    refine equalE_any bq u e.made t w' (E.made_in (he.below hb)) (hs.tin.below hb) (hs.sen.below hb) fun h1 h2 w2 hb2 => ?_
    rw [E.made_k] at h1
    rw [E.made_self (by omega)]
    exact hD h2 _ _ _ ((he.below hb).bod.below hb2) ((hs.tin.below hb).bod.below hb2) (E.fit_body (E.right_fit her) h1) (E.fit_body (E.right_fit htr) h2)
  have HE := Lib.hid hE
  have HS0 := Lib.hid hs
  have hC' : ∀ w', Below w.heap.size w w' → Calls Tryz.prog fm #[y] w' (Ret e.made.v w') := hC
  have HC := Lib.hid hC'
  have hS : ∀ w', Below w.heap.size w w' → (w'.cell? ⟨gt, 0, none⟩ = some (.int .i64 t.k) ∧ w'.cell? ⟨gt, 1, none⟩ = some (.int .i64 t.id) ∧ w'.cell? ⟨gt, 2, none⟩ = some (.int .i64 t.code) ∧ w'.cell? ⟨gt, 3, none⟩ = some (.string t.t) ∧ w'.cell? ⟨gt, 4, none⟩ = some (.int .i64 t.body.k) ∧ w'.cell? ⟨gt, 5, none⟩ = some (.int .i64 t.body.i) ∧ w'.cell? ⟨gt, 6, none⟩ = some (.int .u64 t.body.b) ∧ w'.cell? ⟨gt, 7, none⟩ = some (.string t.body.t) ∧ w'.cell? ⟨gt, 8, none⟩ = some (.slice t.body.A t.body.l.length t.body.c) ∧ w'.cell? ⟨gt, 9, none⟩ = some (.slice t.cA t.codes.length t.cc) ∧ w'.cell? ⟨gt, 10, none⟩ = some (.slice t.A t.l.length t.c)) := fun w' hb => by
    have B1 := hB1
    exact ⟨(B1.below hb B1.lt).cell 0, (B1.below hb B1.lt).cell 1, (B1.below hb B1.lt).cell 2, (B1.below hb B1.lt).cell 3, (B1.below hb B1.lt).cell 4, (B1.below hb B1.lt).cell 5, (B1.below hb B1.lt).cell 6, (B1.below hb B1.lt).cell 7, (B1.below hb B1.lt).cell 8, (B1.below hb B1.lt).cell 9, (B1.below hb B1.lt).cell 10⟩
  have HS := Lib.hid hS
  have hS0 := hS w (Below.refl _ _)
  have hz := hB1.lt
  have ff := hs.bf.frozen 0
  have cf := hs.bf.cell 0
  have hfl := hs.bf.lt
  simp at cf
  have n1' : gf ≠ gt := fun e => n1 e.symm
  have hdr := Lib.hid (Below.refl w.heap.size w).drew
  have Hv := Lib.hid hv
  have He := Lib.hid (And.intro he (And.intro hel (And.intro her (And.intro hok (And.intro he0 (And.intro htr (And.intro ht0 hlo)))))))
  have Hgood := Lib.hid hgood
  have Hq := Lib.hid hq
  have H0 := Lib.hid hS0
  generalize hx : (decide (e.k = 8) && e.saysC t) = x
  have Hx := Lib.hid hx
  clear hx
  clear hE hs hv he hel her hC hC' hS hB1 hok he0 hD htr hgood hq ht0 hS0
  go_enter Tryz.func57, Tryz.ntmps57
  go_upto_region 1 with fail
  go_cut [] (fun wx => Kept [gf] w wx ∧ PIs u t gt gf gv tv q wx)
  case first =>
    have hrel : ∀ w2 : World, Below w.heap.size w w2 → (Kept [gf] w (w2.setCell ⟨gf, 0, none⟩ (.bool q)) ∧ PIs u t gt gf gv tv q (w2.setCell ⟨gf, 0, none⟩ (.bool q))) := fun w2 hb =>
      ⟨(Kept.of_below hb _).trans (Kept.set1 _), (HS0.out.below hb).set_ n1 n2 He.out.2.2.2.2.2.2.2 n3 q⟩
    have Hrel := Lib.hid hrel
    clear hrel He Hv HS0
    by_cases h6 : t.k = 6
    · have hqq : q = false := by rw [Hq.out, h6]; rfl
      subst hqq
      obtain ⟨c0, _⟩ := H0.out
      have h6' : (t.k != 6) = false := by simpa using h6
      have hr := Lib.hid (Hrel.out _ hdr.out)
      clear h6 HE HS HC H0 Hgood Hq hTA hM hcf Hrel hvT
      generalize t.k = k1 at *
      go_region
      go_wp2_with fail
      go_meet
      case rel => exact hr.out
    · have h6' : (t.k != 6) = true := by simpa using h6
      have hgd := Hgood.out
      have hqq := Hq.out
      simp only [E.v, E.cs] at HE HC
      have H6 := Lib.hid h6
      clear h6
      generalize t.k = k1, t.id = f1, t.code = f2, t.t = f3, t.body.k = f4, t.body.i = f5, t.body.b = f6, t.body.t = f7, t.body.A = f8, t.body.l.length = f9, t.body.c = f10, t.cA = f11, t.codes.length = f12, t.cc = f13, t.A = fA, t.l.length = fl, t.c = fc at *
      generalize e.made.k = g0, e.made.id = g1, e.made.code = g2, e.made.t = g3, e.made.body.k = g4, e.made.body.i = g5, e.made.body.b = g6, e.made.body.t = g7, e.made.body.A = g8, e.made.body.l.length = g9, e.made.body.c = g10, e.made.cA = g11, e.made.codes.length = g12, e.made.cc = g13, e.made.A = gA, e.made.l.length = gl, e.made.c = gc at *
      generalize E.eqr bq e t = r at *
      obtain ⟨r1, r2⟩ := r
      have hr2 : r2 = false := by
        cases r2
        · rfl
        · exact absurd ⟨H6.out, rfl⟩ hgd
      subst hr2
      have hqr : q = r1 := by rw [hqq, decide_eq_true H6.out]; rfl
      clear hgd hqq Hq Hgood
      subst hqr
      obtain ⟨c0, c1, c2, c3, c4, c5, c6, c7, c8, c9, c10⟩ := H0.out
      clear H0
      subst hvT
      go_region_held2 (fun w' => w'.cell? ⟨gt, 0, none⟩ = some (.int .i64 k1) ∧ w'.cell? ⟨gt, 1, none⟩ = some (.int .i64 f1) ∧ w'.cell? ⟨gt, 2, none⟩ = some (.int .i64 f2) ∧ w'.cell? ⟨gt, 3, none⟩ = some (.string f3) ∧ w'.cell? ⟨gt, 4, none⟩ = some (.int .i64 f4) ∧ w'.cell? ⟨gt, 5, none⟩ = some (.int .i64 f5) ∧ w'.cell? ⟨gt, 6, none⟩ = some (.int .u64 f6) ∧ w'.cell? ⟨gt, 7, none⟩ = some (.string f7) ∧ w'.cell? ⟨gt, 8, none⟩ = some (.slice f8 f9 f10) ∧ w'.cell? ⟨gt, 9, none⟩ = some (.slice f11 f12 f13) ∧ w'.cell? ⟨gt, 10, none⟩ = some (.slice fA fl fc))
        (first
          | go_keep
          | exact HS.out _ hb2.out
          | exact HS.out _ hb1.out)
        (first
          | (have hb1x := hb1
             clear hb1x
             go_at_call 47
             refine (HE.out _ hb1.out).mono ?_
             rintro en w2 ⟨hb2', he2⟩
             have he2' : en = .returned (.bool q) := he2
             clear he2
             subst he2'
             have hb2 := Lib.hid (hb1.out.trans (hb2'.mono hb1.out.size))
             have cf2 := (hb2.out.cell (p := ⟨gf, 0, none⟩) hfl).trans cf
             have ff2 := (hb2.out.frozen (p := ⟨gf, 0, none⟩) hfl).trans ff
             clear hb2')
          | (refine (HC.out _ hdr.out).mono ?_
             rintro en w1 ⟨rfl, hb1'⟩
             have hb1 := Lib.hid (hdr.out.trans hb1')
             clear hb1'))
      all_goals
        have hr := Lib.hid (Hrel.out _ hb2.out)
        clear c0 c1 c2 c3 c4 c5 c6 c7 c8 c9 c10 HS HC HE
        go_wp2_with fail
        go_meet
        case rel => exact hr.out
  case rest =>
    obtain ⟨hk1, hp1⟩ := hcut
    have Hk1 := Lib.hid hk1
    have Hp1 := Lib.hid hp1
    have hv1 := Hv.out.kept hk1
    have he1 := He.out.1.below' (hk1.below (B := gf) (Nat.le_of_lt hfl) (by simp)) He.out.2.1
    have cf1 := hp1.bf.cell 0
    have ff1 := hp1.bf.frozen 0
    have hfl1 := hp1.bf.lt
    have cv1 := hp1.bv.cell 0
    simp at cf1 cv1
    clear hk1 hp1 HE HS HC HS0 H0 hTA hM hcf hz ff cf Hgood Hq
    by_cases h8 : e.k = 8
    · obtain ⟨g, _, hve, hblk⟩ := hv1.1.like h8
      rw [hve] at hvT
      obtain ⟨htt, hyy⟩ : T = 113 ∧ y = .pointer (some ⟨g, 0, none⟩) := by injection hvT with a b; exact ⟨a.symm, b.symm⟩
      have hL := Lib.hid (likeIs_any e t g 0 tv wc hblk he1 Hp1.out.ev.1 He.out.2.2.2.2.2.2.1 (E.right_ok He.out.2.2.2.2.2.1))
      have t6 := asLike6 (.pointer (some ⟨g, 0, none⟩)) wc
      have tm := methodIs g
      have hx : e.saysC t = x := by have := Hx.out; rwa [decide_eq_true h8, Bool.true_and] at this
      rw [hx] at hL
      clear hvT hv1 he1 hblk He Hv hx Hx h8
      subst hve
      cases q
      · go_wp2_with fail
        refine hL.out.mono ?_
        rintro en w2 ⟨rfl, hb2⟩
        have cf2 := (hb2.cell (p := ⟨gf, 0, none⟩) hfl1).trans cf1
        have ff2 := (hb2.frozen (p := ⟨gf, 0, none⟩) hfl1).trans ff1
        have hr := Lib.hid (And.intro (Hk1.out.trans ((Kept.of_below hb2 _).trans (Kept.set1 (.bool x)))) ((Hp1.out.below hb2).set_ n1 n2 hlo n3 x))
        clear hb2 hL cf1 ff1 cv1 t6 tm
        go_wp2_with fail
        go_ret
        exact ⟨hr.out.1, by simp, by simpa using hr.out.2⟩
      · go_wp2_with fail
        go_ret
        exact ⟨Hk1.out, by simp, by simpa using Hp1.out⟩
    · have hx : x = false := by have := Hx.out; rw [decide_eq_false h8, Bool.false_and] at this; exact this.symm
      have t6 := EV.notLike hv1.1 He.out.2.2.2.2.1 He.out.2.2.2.1 h8
      subst hx
      clear hvT hv1 he1 He Hv h8 Hx
      cases q
      · go_wp2_with fail
        go_ret
        exact ⟨Hk1.out, by simp, by simpa using Hp1.out⟩
      · go_wp2_with fail
        go_ret
        exact ⟨Hk1.out, by simp, by simpa using Hp1.out⟩

theorem isDo_any {bq : D → D → Bool × Bool} {u : Addr} {t : E} {gt gf gv : Nat} {tv : Value} (htr : t.right = true) (ht0 : t.k ≠ 0) (hlo : t.Lo gf) (n1 : gt ≠ gf) (n2 : gv ≠ gf) (n3 : 0 < gf) (hD : t.k = 5 → DEq bq)
    (s : Bool) (e : E) (way : List Int) (v : Value) (ao : Option Addr) (c : Nat) (w : World) (hs : PIs u t gt gf gv tv s w) (he : e.In w) (hel : e.Lo gf) (her : e.right = true) (he0 : e.k ≠ 0) (hv : EVn [gf] w e v) :
    Calls Tryz.prog 57 #[v, .slice ao way.length c, .pointer (some ⟨gt, 0, none⟩), .pointer (some ⟨gf, 0, none⟩), .pointer (some ⟨gv, 0, none⟩)] w
      (fun en w' => Kept [gf] w w' ∧ en = walkEnd (.panicked (errChain u)) (stIs bq t s e way).2 ∧ PIs u t gt gf gv tv (stIs bq t s e way).1 w') := by
  by_cases hb : t.k ≠ 6 ∧ (E.eqr bq e t).2 = true
  · have hst : stIs bq t s e way = (s, 2) := if_pos hb
    rw [hst]
    exact isDo_bad htr ht0 hlo n1 n2 n3 hD s e way v ao c w hs he hel her he0 hv hb.1 hb.2
  · have := isDo_good htr ht0 hlo n1 n2 n3 hD s e way v ao c w hs he hel her he0 hv hb _ rfl
    have hst : stIs bq t s e way = ((decide (t.k ≠ 6) && (E.eqr bq e t).1) || (decide (e.k = 8) && e.saysC t), if ((decide (t.k ≠ 6) && (E.eqr bq e t).1) || (decide (e.k = 8) && e.saysC t)) = true then 1 else 0) := by
      unfold stIs
      rw [if_neg hb]
      generalize (E.eqr bq e t).1 = p, e.saysC t = q
      by_cases h1 : t.k = 6 <;> by_cases h2 : e.k = 8 <;> cases p <;> cases q <;> simp [h1, h2]
    rw [hst]
    generalize ((decide (t.k ≠ 6) && (E.eqr bq e t).1) || (decide (e.k = 8) && e.saysC t)) = x at *
    refine this.mono fun en w' h => ⟨h.1, h.2.1.trans ?_, h.2.2⟩
    cases x <;> rfl
end Go.Proofs.YtbhmeapnmpgggaaGreatDoor
/- errs.Is's outer closure: the walk. Conditions: both errors lie in the world and are right; the sentinel's variable holds a pointer; of two held data the callee's contract is given. -/
namespace Go.Proofs.YtbhmeapnmpgggaaGreatDoor
open Go.RowKit

theorem EVn.new {B : Nat} {w : World} {e : E} {v : Value} (hv : EV B w e v) : EVn [w.heap.size] w e v := by
  refine ⟨hv.mono (Nat.zero_le _), fun g hg hm => ?_⟩
  have hg2 : g = w.heap.size := by simpa using hm
  unfold EV at hv
  rcases hv with ⟨a, rfl⟩ | ⟨a, g', b, rfl, d⟩ | ⟨a, g', b, rfl, d⟩ | ⟨a, g', b, rfl, d⟩ | ⟨a, g', b, rfl, d⟩ | ⟨a, rfl⟩ | ⟨a, rfl⟩ | ⟨a, g', b, rfl, d⟩ | ⟨a, g', b, rfl, d⟩ | ⟨a, rfl⟩ | ⟨a, rfl⟩ <;> simp [evBlock, ptrBlock] at hg <;> (have := d.lt; omega)
/-- what Is computes, of errors that are not nil: found, and whether it panics -/
def E.isr (bq : D → D → Bool × Bool) (e t : E) : Bool × Bool := ((e.walk (stIs bq t) [] false).1, decide (2 ≤ (e.walk (stIs bq t) [] false).2))

set_option maxHeartbeats 2000000 in
set_option maxRecDepth 100000 in
theorem is1_any (bq : D → D → Bool × Bool) (u : Addr) (e t : E) (v tv : Value) (g0 gt gv : Nat) (w : World) (he : e.In w) (ht : t.In w) (her : e.right = true) (htr : t.right = true) (ht0 : t.k ≠ 0) (hes : e.size ≤ 4096)
    (hv : EV 0 w e v) (hvt : EV 0 w t tv) (hs : Sen u w) (b0 : Blk w g0 68 #[v]) (bt : Blk w gt 29 t.cs.toArray) (bv : Blk w gv 68 #[tv]) (hD : t.k = 5 → DEq bq) :
    Calls Tryz.prog 55 #[.pointer (some ⟨g0, 0, none⟩), .pointer (some ⟨gt, 0, none⟩), .pointer (some ⟨gv, 0, none⟩)] w (EqGoes u (e.isr bq t) w) := by
  have hal := (Below.refl w.heap.size w).alloc (Nat.le_refl _) (.cells #[.bool false] 4)
  have h0 : 0 < w.heap.size := lt_of_cell hs
  have hDo : Doer (stIs bq t) (PIs u t gt w.heap.size gv tv) [w.heap.size] w.heap.size (w.heap.size + 1) 57 #[.pointer (some ⟨gt, 0, none⟩), .pointer (some ⟨w.heap.size, 0, none⟩), .pointer (some ⟨gv, 0, none⟩)] (errChain u) :=
    { hbs := by simp
      hB := by omega
      stays := fun s w1 w2 h hb => h.below hb
      enters := fun _ _ => by kernel_rfl
      does := fun s x way vx ao c w1 hp hx hlx hrx hx0 hvx _ _ => isDo_any htr ht0 ht.lo (Nat.ne_of_lt bt.lt) (Nat.ne_of_lt bv.lt) h0 hD s x way vx ao c w1 hp hx hlx hrx hx0 hvx }
  have hP : PIs u t gt w.heap.size gv tv false (w.alloc (.cells #[.bool false] 4)) := ⟨Blk.new _ _ _, bt.alloc _, bv.alloc _, (EVn.new hvt).below hal, ht.below hal, hs.below hal⟩
  have hwalk := walk_any hDo e.size e [] none 0 false v _ (Nat.le_refl _) (by simpa using hes) (he.below hal) he.lo her hP ((EVn.new hv).below hal) ⟨by simp, by simp, by simp, by simp, by simp, fun q x h => by simp at h⟩ (by simp)
  have hc0 := (b0.alloc (.cells #[.bool false] 4)).cell 0
  simp at hc0
  have hcv : v.cells = #[v] := hv.cells
  unfold Value.cells at hcv
  unfold E.isr
  generalize e.walk (stIs bq t) [] false = r at *
  have Hw := Lib.hid hwalk
  have Hal := Lib.hid hal
  clear hwalk hDo hP hal he ht her htr ht0 hes hv hvt hs b0 bt bv hD
  obtain ⟨s, m⟩ := r
  have hfin : ∀ w', Kept [w.heap.size] (w.alloc (.cells #[.bool false] 4)) w' → Below w.heap.size w w' := fun w' h => Hal.out.trans (h.below (by simp) (by simp))
  have Hf := Lib.hid hfin
  clear hfin
  rcases m with _ | _ | m
  · go_enter Tryz.func55, Tryz.ntmps55
    go_wp2_with fail
    refine Hw.out.mono ?_
    rintro en w1 ⟨hk, he1, hp⟩
    have he1' : en = .returned (.bool true) := he1
    clear he1
    subst he1'
    have c1 := hp.bf.cell 0
    simp at c1
    have hr := Lib.hid (Hf.out _ hk)
    clear hk hp Hw
    go_wp2_with fail
    go_ret
    exact ⟨hr.out, rfl⟩
  · go_enter Tryz.func55, Tryz.ntmps55
    go_wp2_with fail
    refine Hw.out.mono ?_
    rintro en w1 ⟨hk, he1, hp⟩
    have he1' : en = .returned (.bool false) := he1
    clear he1
    subst he1'
    have c1 := hp.bf.cell 0
    simp at c1
    have hr := Lib.hid (Hf.out _ hk)
    clear hk hp Hw
    go_wp2_with fail
    go_ret
    exact ⟨hr.out, rfl⟩
  · go_enter Tryz.func55, Tryz.ntmps55
    go_wp2_with fail
    refine Hw.out.mono ?_
    rintro en w1 ⟨hk, he1, hp⟩
    have he1' : en = .panicked (errChain u) := he1
    clear he1
    subst he1'
    refine ⟨rfl, Hf.out _ hk, ?_⟩
    rw [if_pos]
    simp
end Go.Proofs.YtbhmeapnmpgggaaGreatDoor
