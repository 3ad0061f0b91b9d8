/- The trees of errors that the walks speak of, when such a tree lies in a world; the plain functions of Valid. No condition. -/
import Derived.Test.YtbhmeapnmpgggaaGreatDoorPlain1
namespace Go.Proofs.YtbhmeapnmpgggaaGreatDoor
open Go.RowKit

/-- An error, with the addresses and the capacities of its lists. -/
inductive E where
  | mk (k id code : Int) (t : ByteArray) (body : D) (cA : Option Addr) (cc : Nat) (codes : List Int) (A : Option Addr) (c : Nat) (l : List E)

namespace E
def k : E → Int | .mk k _ _ _ _ _ _ _ _ _ _ => k
def id : E → Int | .mk _ i _ _ _ _ _ _ _ _ _ => i
def code : E → Int | .mk _ _ c _ _ _ _ _ _ _ _ => c
def t : E → ByteArray | .mk _ _ _ t _ _ _ _ _ _ _ => t
def body : E → D | .mk _ _ _ _ b _ _ _ _ _ _ => b
def cA : E → Option Addr | .mk _ _ _ _ _ cA _ _ _ _ _ => cA
def cc : E → Nat | .mk _ _ _ _ _ _ cc _ _ _ _ => cc
def codes : E → List Int | .mk _ _ _ _ _ _ _ cs _ _ _ => cs
def A : E → Option Addr | .mk _ _ _ _ _ _ _ _ A _ _ => A
def c : E → Nat | .mk _ _ _ _ _ _ _ _ _ c _ => c
def l : E → List E | .mk _ _ _ _ _ _ _ _ _ _ l => l
section
variable (k id code : Int) (t : ByteArray) (body : D) (cA : Option Addr) (cc : Nat) (codes : List Int) (A : Option Addr) (c : Nat) (l : List E)
@[simp] theorem k_mk : (mk k id code t body cA cc codes A c l).k = k := rfl
@[simp] theorem id_mk : (mk k id code t body cA cc codes A c l).id = id := rfl
@[simp] theorem code_mk : (mk k id code t body cA cc codes A c l).code = code := rfl
@[simp] theorem t_mk : (mk k id code t body cA cc codes A c l).t = t := rfl
@[simp] theorem body_mk : (mk k id code t body cA cc codes A c l).body = body := rfl
@[simp] theorem cA_mk : (mk k id code t body cA cc codes A c l).cA = cA := rfl
@[simp] theorem cc_mk : (mk k id code t body cA cc codes A c l).cc = cc := rfl
@[simp] theorem codes_mk : (mk k id code t body cA cc codes A c l).codes = codes := rfl
@[simp] theorem A_mk : (mk k id code t body cA cc codes A c l).A = A := rfl
@[simp] theorem c_mk : (mk k id code t body cA cc codes A c l).c = c := rfl
@[simp] theorem l_mk : (mk k id code t body cA cc codes A c l).l = l := rfl
end
/-- its cells, its value -/
def cs (e : E) : List Value := [.int .i64 e.k, .int .i64 e.id, .int .i64 e.code, .string e.t, .int .i64 e.body.k, .int .i64 e.body.i, .int .u64 e.body.b, .string e.body.t, .slice e.body.A e.body.l.length e.body.c,
  .slice e.cA e.codes.length e.cc, .slice e.A e.l.length e.c]
def v (e : E) : Value := .agg e.cs.toArray
/-- the fields fit their types; a list of codes takes at most 2^47 bytes -/
def Rng (e : E) : Prop := (-9223372036854775808 ≤ e.k ∧ e.k ≤ 9223372036854775807) ∧ (-9223372036854775808 ≤ e.id ∧ e.id ≤ 9223372036854775807) ∧ (-9223372036854775808 ≤ e.code ∧ e.code ≤ 9223372036854775807) ∧
  e.t.size ≤ 9223372036854775807 ∧ e.codes.length ≤ e.cc ∧ e.cc ≤ 9223372036854775807 ∧ e.codes.length ≤ 140737488355328 ∧ e.l.length ≤ e.c ∧ e.c ≤ 9223372036854775807 ∧ (∀ x, x ∈ e.codes → -9223372036854775808 ≤ x ∧ x ≤ 9223372036854775807)
end E

/-- the codes lie at an address -/
def CodesIn (w : World) (A : Option Addr) (l : List Int) : Prop := ∀ q x, l[q]? = some x → ∃ ad, A = some ad ∧ w.cell? (ad.add q) = some (.int .i64 x)
theorem CodesIn.below {w w' : World} {A : Option Addr} {l : List Int} (h : CodesIn w A l) (hb : Below w.heap.size w w') : CodesIn w' A l := fun q x hq => by
  obtain ⟨ad, e, hc⟩ := h q x hq
  exact ⟨ad, e, (hb.cell (lt_of_cell hc)).trans hc⟩

mutual
def E.size : E → Nat
  | .mk _ _ _ _ _ _ _ _ _ _ l => 1 + E.sizeL l
def E.sizeL : List E → Nat
  | [] => 0
  | d :: l => d.size + E.sizeL l
end
mutual
/-- the tree lies in the world -/
def E.In (w : World) : E → Prop
  | .mk k id code t body cA cc codes A c l => (E.mk k id code t body cA cc codes A c l).Rng ∧ body.In w ∧ CodesIn w cA codes ∧ E.InL w A 0 l
def E.InL (w : World) (A : Option Addr) : Nat → List E → Prop
  | _, [] => True
  | j, d :: l => (∃ ad, A = some ad ∧ At w (ad.add (j * 11)) d.cs) ∧ d.In w ∧ E.InL w A (j + 1) l
end
mutual
theorem E.In.below {w w' : World} (hb : Below w.heap.size w w') : ∀ {d : E}, d.In w → d.In w'
  | .mk _ _ _ _ _ _ _ _ _ _ _, h => ⟨h.1, h.2.1.below hb, h.2.2.1.below hb, E.InL.below hb h.2.2.2⟩
theorem E.InL.below {w w' : World} (hb : Below w.heap.size w w') {A : Option Addr} : ∀ {j : Nat} {l : List E}, E.InL w A j l → E.InL w' A j l
  | _, [], _ => trivial
  | _, _ :: _, h => ⟨let ⟨ad, e, hat⟩ := h.1; ⟨ad, e, hat.below hb⟩, E.In.below hb h.2.1, E.InL.below hb h.2.2⟩
end
theorem E.In.rng {w : World} {d : E} (h : d.In w) : d.Rng := by cases d; exact h.1
theorem E.In.bod {w : World} {d : E} (h : d.In w) : d.body.In w := by cases d; exact h.2.1
theorem E.In.cod {w : World} {d : E} (h : d.In w) : CodesIn w d.cA d.codes := by cases d; exact h.2.2.1
theorem E.In.list {w : World} {d : E} (h : d.In w) : E.InL w d.A 0 d.l := by cases d; exact h.2.2.2
theorem E.InL.at_ {w : World} {A : Option Addr} : ∀ {j : Nat} {l : List E} (_ : E.InL w A j l) {q : Nat} {d : E}, l[q]? = some d →
    (∃ ad, A = some ad ∧ At w (ad.add ((j + q) * 11)) d.cs) ∧ d.In w
  | _, [], _, q, d, hq => by simp at hq
  | j, x :: l, h, 0, d, hq => by
    have : x = d := by simpa using hq
    subst this
    exact ⟨h.1, h.2.1⟩
  | j, x :: l, h, q + 1, d, hq => by
    have := E.InL.at_ h.2.2 (q := q) (d := d) (by simpa using hq)
    rwa [show j + 1 + q = j + (q + 1) from by omega] at this
theorem E.In.at_ {w : World} {d : E} (h : d.In w) {q : Nat} {e : E} (hq : d.l[q]? = some e) : (∃ ad, d.A = some ad ∧ At w (ad.add (q * 11)) e.cs) ∧ e.In w := by
  have := E.InL.at_ h.list hq
  rwa [Nat.zero_add] at this
theorem E.size_eq (d : E) : d.size = 1 + E.sizeL d.l := by cases d; simp [E.size]
theorem E.sizeL_le : ∀ {l : List E} {q : Nat} {d : E}, l[q]? = some d → d.size ≤ E.sizeL l
  | [], q, d, h => by simp at h
  | x :: l, 0, d, h => by
    have : x = d := by simpa using h
    subst this
    simp [E.sizeL]
  | x :: l, q + 1, d, h => by
    have := E.sizeL_le (l := l) (q := q) (d := d) (by simpa using h)
    simp only [E.sizeL]; omega
theorem At.eleven {w : World} {a : Addr} {d : E} (h : At w a d.cs) : w.cell? a = some (.int .i64 d.k) ∧ w.cell? ⟨a.block, a.off + 1, none⟩ = some (.int .i64 d.id) ∧
    w.cell? ⟨a.block, a.off + 2, none⟩ = some (.int .i64 d.code) ∧ w.cell? ⟨a.block, a.off + 3, none⟩ = some (.string d.t) ∧ w.cell? ⟨a.block, a.off + 4, none⟩ = some (.int .i64 d.body.k) ∧
    w.cell? ⟨a.block, a.off + 5, none⟩ = some (.int .i64 d.body.i) ∧ w.cell? ⟨a.block, a.off + 6, none⟩ = some (.int .u64 d.body.b) ∧ w.cell? ⟨a.block, a.off + 7, none⟩ = some (.string d.body.t) ∧
    w.cell? ⟨a.block, a.off + 8, none⟩ = some (.slice d.body.A d.body.l.length d.body.c) ∧ w.cell? ⟨a.block, a.off + 9, none⟩ = some (.slice d.cA d.codes.length d.cc) ∧ w.cell? ⟨a.block, a.off + 10, none⟩ = some (.slice d.A d.l.length d.c) :=
  ⟨h 0 _ rfl, h 1 _ rfl, h 2 _ rfl, h 3 _ rfl, h 4 _ rfl, h 5 _ rfl, h 6 _ rfl, h 7 _ rfl, h 8 _ rfl, h 9 _ rfl, h 10 _ rfl⟩
mutual
/-- all of its addresses lie below block B -/
def E.Lo (B : Nat) : E → Prop
  | .mk _ _ _ _ body cA _ codes A _ l => body.Lo B ∧ (codes ≠ [] → ∀ ad, cA = some ad → ad.block < B) ∧ E.LoL B A l
def E.LoL (B : Nat) (A : Option Addr) : List E → Prop
  | [] => True
  | d :: l => (∀ ad, A = some ad → ad.block < B) ∧ d.Lo B ∧ E.LoL B A l
end
mutual
theorem E.In.lo {w : World} : ∀ {d : E}, d.In w → d.Lo w.heap.size
  | .mk _ _ _ _ _ cA _ codes _ _ _, h => ⟨h.2.1.lo, fun hne ad e => by
      cases codes with
      | nil => exact absurd rfl hne
      | cons x l =>
        obtain ⟨ad', e', hc⟩ := h.2.2.1 0 x rfl
        rw [e] at e'; injection e' with e'; subst e'
        have := lt_of_cell hc
        rwa [block_of_add] at this, E.InL.lo h.2.2.2⟩
theorem E.InL.lo {w : World} {A : Option Addr} : ∀ {j : Nat} {l : List E}, E.InL w A j l → E.LoL w.heap.size A l
  | _, [], _ => trivial
  | _, _ :: _, h => ⟨fun ad e => by
      obtain ⟨ad', e', hat⟩ := h.1
      rw [e] at e'; injection e' with e'; subst e'
      have := lt_of_cell (hat 0 _ rfl)
      rwa [block_of_add, block_of_add] at this, E.In.lo h.2.1, E.InL.lo h.2.2⟩
end
mutual
theorem E.Lo.mono {B B' : Nat} (hB : B ≤ B') : ∀ {d : E}, d.Lo B → d.Lo B'
  | .mk _ _ _ _ _ _ _ _ _ _ _, h => ⟨h.1.mono hB, fun hn ad e => Nat.lt_of_lt_of_le (h.2.1 hn ad e) hB, E.LoL.mono hB h.2.2⟩
theorem E.LoL.mono {B B' : Nat} (hB : B ≤ B') {A : Option Addr} : ∀ {l : List E}, E.LoL B A l → E.LoL B' A l
  | [], _ => trivial
  | _ :: _, h => ⟨fun ad e => Nat.lt_of_lt_of_le (h.1 ad e) hB, E.Lo.mono hB h.2.1, E.LoL.mono hB h.2.2⟩
end
theorem E.LoL.at_ {B : Nat} {A : Option Addr} : ∀ {l : List E} (_ : E.LoL B A l) {q : Nat} {d : E}, l[q]? = some d → (∀ ad, A = some ad → ad.block < B) ∧ d.Lo B
  | [], _, q, d, hq => by simp at hq
  | x :: l, h, 0, d, hq => by
    have : x = d := by simpa using hq
    subst this
    exact ⟨h.1, h.2.1⟩
  | x :: l, h, q + 1, d, hq => E.LoL.at_ h.2.2 (q := q) (d := d) (by simpa using hq)
mutual
theorem E.In.below' {B : Nat} {w w' : World} (hb : Below B w w') : ∀ {d : E}, d.In w → d.Lo B → d.In w'
  | .mk _ _ _ _ _ _ _ codes _ _ _, h, k => ⟨h.1, h.2.1.below' hb k.1, fun q x hq => by
      obtain ⟨ad, e, hc⟩ := h.2.2.1 q x hq
      refine ⟨ad, e, (hb.cell ?_).trans hc⟩
      rw [block_of_add]
      exact k.2.1 (by rintro rfl; simp at hq) ad e, E.InL.below' hb h.2.2.2 k.2.2⟩
theorem E.InL.below' {B : Nat} {w w' : World} (hb : Below B w w') {A : Option Addr} : ∀ {j : Nat} {l : List E}, E.InL w A j l → E.LoL B A l → E.InL w' A j l
  | _, [], _, _ => trivial
  | _, _ :: _, h, k => ⟨let ⟨ad, e, hat⟩ := h.1; ⟨ad, e, hat.below' (by rw [block_of_add]; exact k.1 ad e) hb⟩, E.In.below' hb h.2.1 k.2.1, E.InL.below' hb h.2.2 k.2.2⟩
end

/-! what a kind has -/
def E.fId (k : Int) : Bool := k == 2 || k == 3 || k == 4 || k == 8 || k == 9
def E.fCode (k : Int) : Bool := k == 1 || k == 10 || k == 9
def E.fText (k : Int) : Bool := k == 1 || k == 10 || k == 2 || k == 3 || k == 8 || k == 9
def E.fBody (k : Int) : Bool := k == 5
def E.fCodes (k : Int) : Bool := k == 6 || k == 8
def E.fLeast (k : Int) : Int := if k = 3 then 1 else 0
def E.fMost (k : Int) : Int := if k = 3 then 1 else if k = 8 then 1 else if k = 4 then 4096 else 0
def E.okK (k : Int) : Prop := 0 ≤ k ∧ k ≤ 10
def E.okR (p q r s : Bool) (id code : Int) (t : ByteArray) (n : Nat) : Prop := (p = true ↔ 1 ≤ id) ∧ (p = true ∨ id = 0) ∧ (q = true ∨ code = 0) ∧ (r = true ∨ t.toList = []) ∧ (t.size : Int) ≤ 65535 ∧ (s = true ∨ n = 0)
def E.okL (k code lo hi : Int) (n : Nat) : Prop := (k = 10 → 1 ≤ code ∧ code ≤ 3) ∧ lo ≤ n ∧ (n : Int) ≤ hi
instance (k : Int) : Decidable (E.okK k) := by unfold E.okK; infer_instance
instance (p q r s : Bool) (id code : Int) (t : ByteArray) (n : Nat) : Decidable (E.okR p q r s id code t n) := by unfold E.okR; infer_instance
instance (k code lo hi : Int) (n : Nat) : Decidable (E.okL k code lo hi n) := by unfold E.okL; infer_instance
def D.zero : D := .mk 0 0 0 ⟨#[]⟩ none 0 []
theorem D.zero_in (w : World) : D.zero.In w := by
  unfold D.zero; refine ⟨?_, trivial⟩; simp [D.Rng, ByteArray.size]
def E.head (e : E) : Bool := decide (E.okK e.k) && decide (E.okR (E.fId e.k) (E.fCode e.k) (E.fText e.k) (E.fCodes e.k) e.id e.code e.t e.codes.length) && decide (E.okL e.k e.code (E.fLeast e.k) (E.fMost e.k) e.l.length)
def E.bodyOk (e : E) : Bool := if E.fBody e.k then e.body.valid0 else e.body.same D.zero
def E.fit (e : E) : Bool := e.head && e.bodyOk
mutual
def E.right : E → Bool
  | .mk k id code t body cA cc codes A c l => (E.mk k id code t body cA cc codes A c l).fit && E.rightL k l
def E.rightL (k : Int) : List E → Bool
  | [] => true
  | x :: l => (k == 4 || x.k != 0) && x.right && E.rightL k l
end
mutual
def E.count : E → Int → Int → Int
  | .mk _ _ _ _ _ _ _ _ _ _ l, deep, left => if 16 < deep ∨ left ≤ 0 then 4097 else E.countL l deep left 1
def E.countL : List E → Int → Int → Int → Int
  | [], _, _, n => n
  | x :: l, deep, left, n => if left < n + x.count (deep + 1) (left - n) then 4097 else E.countL l deep left (n + x.count (deep + 1) (left - n))
end
/-- what one error weighs by itself -/
def E.own (e : E) : Int := e.codes.length + if e.k = 5 then (e.body.count 1 4096).1 else 0
mutual
def E.weight : E → Int
  | .mk k id code t body cA cc codes A c l => E.weightL l (E.mk k id code t body cA cc codes A c l).own
def E.weightL : List E → Int → Int
  | [], n => n
  | x :: l, n => if 4096 < n + x.weight then 4097 else E.weightL l (n + x.weight)
end
/-- what one error weighs by itself, as errs.look has it -/
def E.own0 (e : E) : Int := e.codes.length + if e.k = 5 then (e.body.look 1 0 0).2.1 else 0
mutual
def E.look : E → Int → Int → Int → Bool × Int × Int
  | .mk k id code t body cA cc codes A c l, deep, p, m => if 4096 < p + 1 ∨ 16 < deep ∨ (E.mk k id code t body cA cc codes A c l).fit = false then (false, p + 1, m)
    else E.lookL k l (deep + 1) (p + 1) (m + (E.mk k id code t body cA cc codes A c l).own0)
def E.lookL (k : Int) : List E → Int → Int → Int → Bool × Int × Int
  | [], _, p, m => (decide (m ≤ 4096), p, m)
  | x :: l, deep, p, m => if k ≠ 4 ∧ x.k = 0 then (false, p, m) else if (x.look deep p m).1 then E.lookL k l deep (x.look deep p m).2.1 (x.look deep p m).2.2 else (false, (x.look deep p m).2)
end
def E.valid0 (e : E) : Bool := (e.look 1 0 0).1
def E.valid1 (e : E) : Bool := decide (e.count 1 4096 ≤ 4096) && e.right && decide (e.weight ≤ 4096)
end Go.Proofs.YtbhmeapnmpgggaaGreatDoor
