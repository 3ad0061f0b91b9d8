/- The trees of data that the walks speak of, and when such a tree lies in a world. No condition. -/
import Derived.Below
import Derived.Deep.Draws
import Derived.Laws.OwnMore
import Derived.Lib.Hide
import Derived.Laws.Strings
namespace Go.Proofs.YtbhmeapnmpgggaaGreatDoor
open Go.RowKit

/-- A datum, with the address and the capacity of its list. -/
inductive D where
  | mk (k i b : Int) (t : ByteArray) (A : Option Addr) (c : Nat) (l : List D)

namespace D
def k : D → Int | .mk k _ _ _ _ _ _ => k
def i : D → Int | .mk _ i _ _ _ _ _ => i
def b : D → Int | .mk _ _ b _ _ _ _ => b
def t : D → ByteArray | .mk _ _ _ t _ _ _ => t
def A : D → Option Addr | .mk _ _ _ _ A _ _ => A
def c : D → Nat | .mk _ _ _ _ _ c _ => c
def l : D → List D | .mk _ _ _ _ _ _ l => l
@[simp] theorem k_mk (k i b t A c l) : (mk k i b t A c l).k = k := rfl
@[simp] theorem i_mk (k i b t A c l) : (mk k i b t A c l).i = i := rfl
@[simp] theorem b_mk (k i b t A c l) : (mk k i b t A c l).b = b := rfl
@[simp] theorem t_mk (k i b t A c l) : (mk k i b t A c l).t = t := rfl
@[simp] theorem A_mk (k i b t A c l) : (mk k i b t A c l).A = A := rfl
@[simp] theorem c_mk (k i b t A c l) : (mk k i b t A c l).c = c := rfl
@[simp] theorem l_mk (k i b t A c l) : (mk k i b t A c l).l = l := rfl

/-- its cells, its value -/
def cs (d : D) : List Value := [.int .i64 d.k, .int .i64 d.i, .int .u64 d.b, .string d.t, .slice d.A d.l.length d.c]
def v (d : D) : Value := .agg d.cs.toArray

/-- the fields fit their types -/
def Rng (d : D) : Prop := (-9223372036854775808 ≤ d.k ∧ d.k ≤ 9223372036854775807) ∧ (-9223372036854775808 ≤ d.i ∧ d.i ≤ 9223372036854775807) ∧
  (0 ≤ d.b ∧ d.b ≤ 18446744073709551615) ∧ d.t.size ≤ 9223372036854775807 ∧ d.l.length ≤ d.c ∧ d.c ≤ 9223372036854775807
end D

/-- the cells xs lie at address a -/
def At (w : World) (a : Addr) (xs : List Value) : Prop := ∀ q u, xs[q]? = some u → w.cell? (a.add q) = some u

mutual
/-- how many values in it, itself too -/
def D.size : D → Nat
  | .mk _ _ _ _ _ _ l => 1 + D.sizeL l
def D.sizeL : List D → Nat
  | [] => 0
  | d :: l => d.size + D.sizeL l
end

mutual
/-- the tree lies in the world -/
def D.In (w : World) : D → Prop
  | .mk k i b t A c l => (D.mk k i b t A c l).Rng ∧ D.InL w A 0 l
def D.InL (w : World) (A : Option Addr) : Nat → List D → Prop
  | _, [] => True
  | j, d :: l => (∃ ad, A = some ad ∧ At w (ad.add (j * 5)) d.cs) ∧ d.In w ∧ D.InL w A (j + 1) l
end

theorem add_of_add (a : Addr) (i j : Nat) : (a.add i).add j = a.add (i + j) := by
  unfold Addr.add
  by_cases hi : i = 0 <;> by_cases hj : j = 0 <;> simp [hi, hj, Nat.add_assoc]
theorem block_of_add (a : Addr) (n : Nat) : (a.add n).block = a.block := by unfold Addr.add; split <;> rfl
theorem lt_of_cell {w : World} {a : Addr} {u : Value} (h : w.cell? a = some u) : a.block < w.heap.size := by
  rcases Nat.lt_or_ge a.block w.heap.size with hlt | hge
  · exact hlt
  · simp [World.cell?, Array.getElem?_eq_none hge] at h
theorem At.below {w w' : World} {a : Addr} {xs : List Value} (h : At w a xs) (hb : Below w.heap.size w w') : At w' a xs := fun q u hu => by
  have := h q u hu
  exact (hb.cell (lt_of_cell this)).trans this

mutual
theorem D.In.below {w w' : World} (hb : Below w.heap.size w w') : ∀ {d : D}, d.In w → d.In w'
  | .mk _ _ _ _ _ _ _, h => ⟨h.1, D.InL.below hb h.2⟩
theorem D.InL.below {w w' : World} (hb : Below w.heap.size w w') {A : Option Addr} : ∀ {j : Nat} {l : List D}, D.InL w A j l → D.InL w' A j l
  | _, [], _ => trivial
  | _, _ :: _, h => ⟨let ⟨ad, e, hat⟩ := h.1; ⟨ad, e, hat.below hb⟩, D.In.below hb h.2.1, D.InL.below hb h.2.2⟩
end

theorem D.In.rng {w : World} {d : D} (h : d.In w) : d.Rng := by cases d; exact h.1
theorem D.In.list {w : World} {d : D} (h : d.In w) : D.InL w d.A 0 d.l := by cases d; exact h.2
theorem D.InL.at_ {w : World} {A : Option Addr} : ∀ {j : Nat} {l : List D} (_ : D.InL w A j l) {q : Nat} {d : D}, l[q]? = some d →
    (∃ ad, A = some ad ∧ At w (ad.add ((j + q) * 5)) d.cs) ∧ d.In w
  | _, [], _, q, d, hq => by simp at hq
  | j, x :: l, h, 0, d, hq => by
    have : x = d := by simpa using hq
    subst this
    exact ⟨h.1, h.2.1⟩
  | j, x :: l, h, q + 1, d, hq => by
    have := D.InL.at_ h.2.2 (q := q) (d := d) (by simpa using hq)
    rwa [show j + 1 + q = j + (q + 1) from by omega] at this
theorem D.In.at_ {w : World} {d : D} (h : d.In w) {q : Nat} {e : D} (hq : d.l[q]? = some e) : (∃ ad, d.A = some ad ∧ At w (ad.add (q * 5)) e.cs) ∧ e.In w := by
  have := D.InL.at_ h.list hq
  rwa [Nat.zero_add] at this

theorem toList_inj {s t : ByteArray} (h : s.toList = t.toList) : s = t := by
  rw [ByteArray.toList_eq, ByteArray.toList_eq] at h
  cases s; cases t
  simp only [ByteArray.mk.injEq]
  exact Array.toList_inj.1 h
theorem drop_of_get {α : Type} {l : List α} {j : Nat} {x : α} (h : l[j]? = some x) : l.drop j = x :: l.drop (j + 1) := by
  obtain ⟨hj, rfl⟩ := List.getElem?_eq_some_iff.1 h
  exact List.drop_eq_getElem_cons hj
theorem D.size_eq (d : D) : d.size = 1 + D.sizeL d.l := by cases d; simp [D.size]
theorem D.sizeL_le : ∀ {l : List D} {q : Nat} {d : D}, l[q]? = some d → d.size ≤ D.sizeL l
  | [], q, d, h => by simp at h
  | x :: l, 0, d, h => by
    have : x = d := by simpa using h
    subst this
    simp [D.sizeL]
  | x :: l, q + 1, d, h => by
    have := D.sizeL_le (l := l) (q := q) (d := d) (by simpa using h)
    simp only [D.sizeL]; omega
theorem D.size_lt {d e : D} {q : Nat} (h : d.l[q]? = some e) : e.size < d.size := by
  have := D.sizeL_le h
  rw [D.size_eq d]; omega

mutual
/-- all fields the same, part by part -/
def D.same : D → D → Bool
  | .mk k i b t _ _ l, y => k == y.k && i == y.i && b == y.b && decide (t = y.t) && D.sameL l y.l
def D.sameL : List D → List D → Bool
  | [], [] => true
  | x :: l, y :: m => x.same y && D.sameL l m
  | _, _ => false
end

theorem D.sameL_len : ∀ {l m : List D}, l.length ≠ m.length → D.sameL l m = false
  | [], [], h => absurd rfl h
  | [], _ :: _, _ => rfl
  | _ :: _, [], _ => rfl
  | x :: l, y :: m, h => by
    have : l.length ≠ m.length := fun e => h (by simp [e])
    rw [D.sameL, D.sameL_len this, Bool.and_false]

/-- the five cells, as the walk spells them -/
theorem At.five {w : World} {a : Addr} {d : D} (h : At w a d.cs) : w.cell? a = some (.int .i64 d.k) ∧ w.cell? ⟨a.block, a.off + 1, none⟩ = some (.int .i64 d.i) ∧
    w.cell? ⟨a.block, a.off + 2, none⟩ = some (.int .u64 d.b) ∧ w.cell? ⟨a.block, a.off + 3, none⟩ = some (.string d.t) ∧ w.cell? ⟨a.block, a.off + 4, none⟩ = some (.slice d.A d.l.length d.c) :=
  ⟨h 0 _ rfl, h 1 _ rfl, h 2 _ rfl, h 3 _ rfl, h 4 _ rfl⟩
theorem D.v_eq (d : D) : Value.agg #[.int .i64 d.k, .int .i64 d.i, .int .u64 d.b, .string d.t, .slice d.A d.l.length d.c] = d.v := rfl
mutual
/-- conduitref01.count -/
def D.count : D → Int → Int → Int × Int
  | .mk _ _ _ _ _ _ l, deep, left => if 16 < deep ∨ left ≤ 0 then (4097, deep) else D.countL l deep left 1 deep
def D.countL : List D → Int → Int → Int → Int → Int × Int
  | [], _, _, n, most => (n, most)
  | x :: l, deep, left, n, most =>
    if left < n + (x.count (deep + 1) (left - n)).1 ∨ 16 < max most (x.count (deep + 1) (left - n)).2 then (4097, max most (x.count (deep + 1) (left - n)).2)
    else D.countL l deep left (n + (x.count (deep + 1) (left - n)).1) (max most (x.count (deep + 1) (left - n)).2)
end
mutual
theorem D.count_bd : ∀ (d : D) (deep left : Int), deep ≤ 17 → left ≤ 4096 → 1 ≤ (d.count deep left).1 ∧ (d.count deep left).1 ≤ 4097 ∧ deep ≤ (d.count deep left).2 ∧ (d.count deep left).2 ≤ 17
  | .mk _ _ _ _ _ _ l, deep, left, h, h' => by
    rw [D.count]
    split
    · exact ⟨by simp, by simp, by simp, h⟩
    · exact D.countL_bd l deep left 1 deep h' (by omega) (by omega) (by omega) (by omega) (by omega)
theorem D.countL_bd : ∀ (l : List D) (deep left n most : Int), left ≤ 4096 → deep ≤ 16 → 1 ≤ n → n ≤ left → deep ≤ most → most ≤ 16 →
    1 ≤ (D.countL l deep left n most).1 ∧ (D.countL l deep left n most).1 ≤ 4097 ∧ deep ≤ (D.countL l deep left n most).2 ∧ (D.countL l deep left n most).2 ≤ 17
  | [], deep, left, n, most, h', h0, h1, h2, h3, h4 => by rw [D.countL]; exact ⟨h1, by simp; omega, h3, by simp; omega⟩
  | x :: l, deep, left, n, most, h', h0, h1, h2, h3, h4 => by
    have hx := D.count_bd x (deep + 1) (left - n) (by omega) (by omega)
    rw [D.countL]
    split
    · exact ⟨by simp, by simp, by simp; omega, by simp; omega⟩
    · exact D.countL_bd l deep left _ _ h' h0 (by omega) (by omega) (by omega) (by omega)
end
def D.hasI (k : Int) : Bool := k == 1 || k == 2 || k == 6 || k == 10 || k == 11
def D.hasT (k : Int) : Bool := k == 4 || k == 5 || k == 7 || k == 10
/-- the fields are as the kind has them, its parts aside -/
def D.head (d : D) : Bool := decide (0 ≤ d.k ∧ d.k ≤ 13 ∧ (d.k = 6 → d.i = 0 ∨ d.i = 1) ∧ (d.k = 11 → 1 ≤ d.i) ∧ (D.hasI d.k = true ∨ d.i = 0) ∧ (d.k = 3 ∨ d.b = 0) ∧
  (D.hasT d.k = true ∨ d.t.size = 0) ∧ (d.k = 8 ∨ d.l.length = if d.k = 9 then 2 else if d.k = 11 then 1 else 0) ∧ d.t.size ≤ 65535)
mutual
/-- conduitref01.right -/
def D.right : D → Bool
  | .mk k i b t A c l => (D.mk k i b t A c l).head && D.rightL l
def D.rightL : List D → Bool
  | [] => true
  | d :: l => d.right && D.rightL l
end
end Go.Proofs.YtbhmeapnmpgggaaGreatDoor
