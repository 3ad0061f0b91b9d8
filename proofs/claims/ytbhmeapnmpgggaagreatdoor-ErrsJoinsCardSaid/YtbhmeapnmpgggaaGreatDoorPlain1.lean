/- The trees of data that the walks speak of, and when such a tree lies in a world. No condition. -/
import Derived.Below
import Derived.Deep.Draws
import Derived.Laws.OwnMore
import Derived.Lib.Hide
import Derived.Laws.Strings
import Derived.Laws.Rows
namespace Go.Proofs.YtbhmeapnmpgggaaGreatDoor
open Go.RowKit

/-- A datum, with the address and the capacity of its list. -/
inductive D where
  | mk (k i b : Int) (t : ByteArray) (A : Option Addr) (c : Nat) (l : List D)

namespace D
def k : D → Int | .mk k _ _ _ _ _ _ => k
def i : D → Int | .mk _ i _ _ _ _ _ => i
def b : D → Int | .mk _ _ b _ _ _ _ => b
def t : D → ByteArray | .mk _ _ _ t _ _ _ => t
def A : D → Option Addr | .mk _ _ _ _ A _ _ => A
def c : D → Nat | .mk _ _ _ _ _ c _ => c
def l : D → List D | .mk _ _ _ _ _ _ l => l
@[simp] theorem k_mk (k i b t A c l) : (mk k i b t A c l).k = k := rfl
@[simp] theorem i_mk (k i b t A c l) : (mk k i b t A c l).i = i := rfl
@[simp] theorem b_mk (k i b t A c l) : (mk k i b t A c l).b = b := rfl
@[simp] theorem t_mk (k i b t A c l) : (mk k i b t A c l).t = t := rfl
@[simp] theorem A_mk (k i b t A c l) : (mk k i b t A c l).A = A := rfl
@[simp] theorem c_mk (k i b t A c l) : (mk k i b t A c l).c = c := rfl
@[simp] theorem l_mk (k i b t A c l) : (mk k i b t A c l).l = l := rfl

/-- its cells, its value -/
def cs (d : D) : List Value := [.int .i64 d.k, .int .i64 d.i, .int .u64 d.b, .string d.t, .slice d.A d.l.length d.c]
def v (d : D) : Value := .agg d.cs.toArray

/-- the fields fit their types -/
def Rng (d : D) : Prop := (-9223372036854775808 ≤ d.k ∧ d.k ≤ 9223372036854775807) ∧ (-9223372036854775808 ≤ d.i ∧ d.i ≤ 9223372036854775807) ∧
  (0 ≤ d.b ∧ d.b ≤ 18446744073709551615) ∧ d.t.size ≤ 9223372036854775807 ∧ d.l.length ≤ d.c ∧ d.c ≤ 9223372036854775807
end D

/-- the cells xs lie at address a -/
def At (w : World) (a : Addr) (xs : List Value) : Prop := ∀ q u, xs[q]? = some u → w.cell? (a.add q) = some u

mutual
/-- how many values in it, itself too -/
def D.size : D → Nat
  | .mk _ _ _ _ _ _ l => 1 + D.sizeL l
def D.sizeL : List D → Nat
  | [] => 0
  | d :: l => d.size + D.sizeL l
end

mutual
/-- the tree lies in the world -/
def D.In (w : World) : D → Prop
  | .mk k i b t A c l => (D.mk k i b t A c l).Rng ∧ D.InL w A 0 l
def D.InL (w : World) (A : Option Addr) : Nat → List D → Prop
  | _, [] => True
  | j, d :: l => (∃ ad, A = some ad ∧ At w (ad.add (j * 5)) d.cs) ∧ d.In w ∧ D.InL w A (j + 1) l
end

theorem add_of_add (a : Addr) (i j : Nat) : (a.add i).add j = a.add (i + j) := by
  unfold Addr.add
  by_cases hi : i = 0 <;> by_cases hj : j = 0 <;> simp [hi, hj, Nat.add_assoc]
theorem block_of_add (a : Addr) (n : Nat) : (a.add n).block = a.block := by unfold Addr.add; split <;> rfl
theorem lt_of_cell {w : World} {a : Addr} {u : Value} (h : w.cell? a = some u) : a.block < w.heap.size := by
  rcases Nat.lt_or_ge a.block w.heap.size with hlt | hge
  · exact hlt
  · simp [World.cell?, Array.getElem?_eq_none hge] at h
theorem At.below {w w' : World} {a : Addr} {xs : List Value} (h : At w a xs) (hb : Below w.heap.size w w') : At w' a xs := fun q u hu => by
  have := h q u hu
  exact (hb.cell (lt_of_cell this)).trans this

mutual
theorem D.In.below {w w' : World} (hb : Below w.heap.size w w') : ∀ {d : D}, d.In w → d.In w'
  | .mk _ _ _ _ _ _ _, h => ⟨h.1, D.InL.below hb h.2⟩
theorem D.InL.below {w w' : World} (hb : Below w.heap.size w w') {A : Option Addr} : ∀ {j : Nat} {l : List D}, D.InL w A j l → D.InL w' A j l
  | _, [], _ => trivial
  | _, _ :: _, h => ⟨let ⟨ad, e, hat⟩ := h.1; ⟨ad, e, hat.below hb⟩, D.In.below hb h.2.1, D.InL.below hb h.2.2⟩
end

theorem D.In.rng {w : World} {d : D} (h : d.In w) : d.Rng := by cases d; exact h.1
theorem D.In.list {w : World} {d : D} (h : d.In w) : D.InL w d.A 0 d.l := by cases d; exact h.2
theorem D.InL.at_ {w : World} {A : Option Addr} : ∀ {j : Nat} {l : List D} (_ : D.InL w A j l) {q : Nat} {d : D}, l[q]? = some d →
    (∃ ad, A = some ad ∧ At w (ad.add ((j + q) * 5)) d.cs) ∧ d.In w
  | _, [], _, q, d, hq => by simp at hq
  | j, x :: l, h, 0, d, hq => by
    have : x = d := by simpa using hq
    subst this
    exact ⟨h.1, h.2.1⟩
  | j, x :: l, h, q + 1, d, hq => by
    have := D.InL.at_ h.2.2 (q := q) (d := d) (by simpa using hq)
    rwa [show j + 1 + q = j + (q + 1) from by omega] at this
theorem D.In.at_ {w : World} {d : D} (h : d.In w) {q : Nat} {e : D} (hq : d.l[q]? = some e) : (∃ ad, d.A = some ad ∧ At w (ad.add (q * 5)) e.cs) ∧ e.In w := by
  have := D.InL.at_ h.list hq
  rwa [Nat.zero_add] at this

theorem toList_inj {s t : ByteArray} (h : s.toList = t.toList) : s = t := by
  rw [ByteArray.toList_eq, ByteArray.toList_eq] at h
  cases s; cases t
  simp only [ByteArray.mk.injEq]
  exact Array.toList_inj.1 h
theorem drop_of_get {α : Type} {l : List α} {j : Nat} {x : α} (h : l[j]? = some x) : l.drop j = x :: l.drop (j + 1) := by
  obtain ⟨hj, rfl⟩ := List.getElem?_eq_some_iff.1 h
  exact List.drop_eq_getElem_cons hj
theorem D.size_eq (d : D) : d.size = 1 + D.sizeL d.l := by cases d; simp [D.size]
theorem D.sizeL_le : ∀ {l : List D} {q : Nat} {d : D}, l[q]? = some d → d.size ≤ D.sizeL l
  | [], q, d, h => by simp at h
  | x :: l, 0, d, h => by
    have : x = d := by simpa using h
    subst this
    simp [D.sizeL]
  | x :: l, q + 1, d, h => by
    have := D.sizeL_le (l := l) (q := q) (d := d) (by simpa using h)
    simp only [D.sizeL]; omega
theorem D.size_lt {d e : D} {q : Nat} (h : d.l[q]? = some e) : e.size < d.size := by
  have := D.sizeL_le h
  rw [D.size_eq d]; omega

mutual
/-- all fields the same, part by part -/
def D.same : D → D → Bool
  | .mk k i b t _ _ l, y => k == y.k && i == y.i && b == y.b && decide (t = y.t) && D.sameL l y.l
def D.sameL : List D → List D → Bool
  | [], [] => true
  | x :: l, y :: m => x.same y && D.sameL l m
  | _, _ => false
end

theorem D.sameL_len : ∀ {l m : List D}, l.length ≠ m.length → D.sameL l m = false
  | [], [], h => absurd rfl h
  | [], _ :: _, _ => rfl
  | _ :: _, [], _ => rfl
  | x :: l, y :: m, h => by
    have : l.length ≠ m.length := fun e => h (by simp [e])
    rw [D.sameL, D.sameL_len this, Bool.and_false]

/-- the five cells, as the walk spells them -/
theorem At.five {w : World} {a : Addr} {d : D} (h : At w a d.cs) : w.cell? a = some (.int .i64 d.k) ∧ w.cell? ⟨a.block, a.off + 1, none⟩ = some (.int .i64 d.i) ∧
    w.cell? ⟨a.block, a.off + 2, none⟩ = some (.int .u64 d.b) ∧ w.cell? ⟨a.block, a.off + 3, none⟩ = some (.string d.t) ∧ w.cell? ⟨a.block, a.off + 4, none⟩ = some (.slice d.A d.l.length d.c) :=
  ⟨h 0 _ rfl, h 1 _ rfl, h 2 _ rfl, h 3 _ rfl, h 4 _ rfl⟩
theorem D.v_eq (d : D) : Value.agg #[.int .i64 d.k, .int .i64 d.i, .int .u64 d.b, .string d.t, .slice d.A d.l.length d.c] = d.v := rfl
mutual
/-- conduitref01.count -/
def D.count : D → Int → Int → Int × Int
  | .mk _ _ _ _ _ _ l, deep, left => if 16 < deep ∨ left ≤ 0 then (4097, deep) else D.countL l deep left 1 deep
def D.countL : List D → Int → Int → Int → Int → Int × Int
  | [], _, _, n, most => (n, most)
  | x :: l, deep, left, n, most =>
    if left < n + (x.count (deep + 1) (left - n)).1 ∨ 16 < max most (x.count (deep + 1) (left - n)).2 then (4097, max most (x.count (deep + 1) (left - n)).2)
    else D.countL l deep left (n + (x.count (deep + 1) (left - n)).1) (max most (x.count (deep + 1) (left - n)).2)
end
mutual
theorem D.count_bd : ∀ (d : D) (deep left : Int), deep ≤ 17 → left ≤ 4096 → 1 ≤ (d.count deep left).1 ∧ (d.count deep left).1 ≤ 4097 ∧ deep ≤ (d.count deep left).2 ∧ (d.count deep left).2 ≤ 17
  | .mk _ _ _ _ _ _ l, deep, left, h, h' => by
    rw [D.count]
    split
    · exact ⟨by simp, by simp, by simp, h⟩
    · exact D.countL_bd l deep left 1 deep h' (by omega) (by omega) (by omega) (by omega) (by omega)
theorem D.countL_bd : ∀ (l : List D) (deep left n most : Int), left ≤ 4096 → deep ≤ 16 → 1 ≤ n → n ≤ left → deep ≤ most → most ≤ 16 →
    1 ≤ (D.countL l deep left n most).1 ∧ (D.countL l deep left n most).1 ≤ 4097 ∧ deep ≤ (D.countL l deep left n most).2 ∧ (D.countL l deep left n most).2 ≤ 17
  | [], deep, left, n, most, h', h0, h1, h2, h3, h4 => by rw [D.countL]; exact ⟨h1, by simp; omega, h3, by simp; omega⟩
  | x :: l, deep, left, n, most, h', h0, h1, h2, h3, h4 => by
    have hx := D.count_bd x (deep + 1) (left - n) (by omega) (by omega)
    rw [D.countL]
    split
    · exact ⟨by simp, by simp, by simp; omega, by simp; omega⟩
    · exact D.countL_bd l deep left _ _ h' h0 (by omega) (by omega) (by omega) (by omega)
end
def D.hasI (k : Int) : Bool := k == 1 || k == 2 || k == 6 || k == 10 || k == 11
def D.hasT (k : Int) : Bool := k == 4 || k == 5 || k == 7 || k == 10
/-- the fields are as the kind has them, its parts aside -/
def D.head (d : D) : Bool := decide (0 ≤ d.k ∧ d.k ≤ 13 ∧ (d.k = 6 → d.i = 0 ∨ d.i = 1) ∧ (d.k = 11 → 1 ≤ d.i) ∧ (D.hasI d.k = true ∨ d.i = 0) ∧ (d.k = 3 ∨ d.b = 0) ∧
  (D.hasT d.k = true ∨ d.t.size = 0) ∧ (d.k = 8 ∨ d.l.length = if d.k = 9 then 2 else if d.k = 11 then 1 else 0) ∧ d.t.size ≤ 65535)
mutual
/-- conduitref01.right -/
def D.right : D → Bool
  | .mk k i b t A c l => (D.mk k i b t A c l).head && D.rightL l
def D.rightL : List D → Bool
  | [] => true
  | d :: l => d.right && D.rightL l
end
end Go.Proofs.YtbhmeapnmpgggaaGreatDoor
/- Blocks of a call's own, what a call leaves as it was, addresses below a bound; the plain function of datum.look. No condition. -/
namespace Go.Proofs.YtbhmeapnmpgggaaGreatDoor
open Go.RowKit

/-- all old blocks but those of the list are as they were -/
structure Kept (bs : List Nat) (w w' : World) : Prop where
  os : w'.os = w.os
  tape : w'.tape = w.tape
  output : w'.output = w.output
  size : w.heap.size ≤ w'.heap.size
  block : ∀ k, k < w.heap.size → k ∉ bs → w'.heap[k]? = w.heap[k]?
namespace Kept
variable {bs : List Nat} {a b c w w' : World}
theorem refl (bs : List Nat) (w : World) : Kept bs w w := ⟨rfl, rfl, rfl, Nat.le_refl _, fun _ _ _ => rfl⟩
theorem trans (h : Kept bs a b) (k : Kept bs b c) : Kept bs a c :=
  ⟨k.os.trans h.os, k.tape.trans h.tape, k.output.trans h.output, Nat.le_trans h.size k.size, fun i hi hn => (k.block i (Nat.lt_of_lt_of_le hi h.size) hn).trans (h.block i hi hn)⟩
theorem mono {bs' : List Nat} (h : Kept bs a b) (hs : ∀ k, k < a.heap.size → k ∈ bs → k ∈ bs') : Kept bs' a b :=
  ⟨h.os, h.tape, h.output, h.size, fun i hi hn => h.block i hi fun hm => hn (hs i hi hm)⟩
theorem of_below (h : Below a.heap.size a b) (bs : List Nat) : Kept bs a b := ⟨h.os, h.tape, h.output, h.size, fun i hi _ => h.block i hi⟩
theorem below {B : Nat} (h : Kept bs a b) (hB : B ≤ a.heap.size) (hs : ∀ k ∈ bs, B ≤ k) : Below B a b :=
  ⟨h.os, h.tape, h.output, h.size, fun i hi => h.block i (by omega) fun hm => by have := hs i hm; omega⟩
theorem drew (h : Kept bs a b) : Kept bs a b.drew := ⟨h.os, h.tape, h.output, h.size, h.block⟩
theorem drewN (h : Kept bs a b) (n : Nat) : Kept bs a (b.drewN n) := ⟨h.os, h.tape, h.output, h.size, h.block⟩
theorem alloc (h : Kept bs a b) (o : Obj) : Kept bs a (b.alloc o) := h.trans (of_below ((Below.refl _ _).alloc (Nat.le_refl _) o) bs)
theorem setCell (h : Kept bs a b) {p : Addr} (hp : p.block ∈ bs ∨ a.heap.size ≤ p.block) (u : Value) : Kept bs a (b.setCell p u) :=
  ⟨h.os, h.tape, h.output, by simpa [World.setCell] using h.size, fun i hi hn => (Below.heap_setCell b p u i (fun e => by
    rcases hp with hp | hp
    · exact hn (e ▸ hp)
    · omega)).trans (h.block i hi hn)⟩
end Kept

/-- block g is just these cells, none frozen -/
def Blk (w : World) (g : Nat) (t : TypeId) (cs : Array Value) : Prop := w.heap[g]? = some (.cells cs t (0, 0))
namespace Blk
variable {w w' : World} {g : Nat} {t : TypeId} {cs : Array Value}
theorem lt (h : Blk w g t cs) : g < w.heap.size := by
  rcases Nat.lt_or_ge g w.heap.size with hlt | hge
  · exact hlt
  · unfold Blk at h; rw [Array.getElem?_eq_none hge] at h; cases h
theorem cell (h : Blk w g t cs) (i : Nat) : w.cell? ⟨g, i, none⟩ = cs[i]? :=
  cell_of_row w g i cs t (0, 0) h
theorem frozen (h : Blk w g t cs) (i : Nat) : w.frozen? ⟨g, i, none⟩ = false := by
  unfold Blk at h
  simp [World.frozen?, h]
theorem new (w : World) (t : TypeId) (cs : Array Value) : Blk (w.alloc (.cells cs t)) w.heap.size t cs := by
  unfold Blk
  show (w.heap.push _)[w.heap.size]? = _
  simp
theorem new' {w : World} {g : Nat} (h : w.heap.size = g) (t : TypeId) (cs : Array Value) : Blk (w.alloc (.cells cs t)) g t cs := h ▸ Blk.new w t cs
theorem drew (h : Blk w g t cs) : Blk w.drew g t cs := h
theorem alloc (h : Blk w g t cs) (o : Obj) : Blk (w.alloc o) g t cs := (Below.heap_alloc w o g h.lt).trans h
theorem set_ (h : Blk w g t cs) (i : Nat) (u : Value) : Blk (w.setCell ⟨g, i, none⟩ u) g t (cs.setIfInBounds i u) := by
  unfold Blk at h ⊢
  simp [World.setCell, Array.getElem?_modify, h]
theorem far (h : Blk w g t cs) {p : Addr} (hp : g ≠ p.block) (u : Value) : Blk (w.setCell p u) g t cs := (Below.heap_setCell w p u g hp).trans h
theorem below {B : Nat} (h : Blk w g t cs) (hb : Below B w w') (hg : g < B) : Blk w' g t cs := (hb.block g hg).trans h
theorem kept {bs : List Nat} (h : Blk w g t cs) (hb : Kept bs w w') (hg : g ∉ bs) : Blk w' g t cs := (hb.block g h.lt hg).trans h
end Blk

mutual
/-- all of its addresses lie below block B -/
def D.Lo (B : Nat) : D → Prop
  | .mk _ _ _ _ A _ l => D.LoL B A l
def D.LoL (B : Nat) (A : Option Addr) : List D → Prop
  | [] => True
  | d :: l => (∀ ad, A = some ad → ad.block < B) ∧ d.Lo B ∧ D.LoL B A l
end
mutual
theorem D.In.lo {w : World} : ∀ {d : D}, d.In w → d.Lo w.heap.size
  | .mk _ _ _ _ _ _ _, h => D.InL.lo h.2
theorem D.InL.lo {w : World} {A : Option Addr} : ∀ {j : Nat} {l : List D}, D.InL w A j l → D.LoL w.heap.size A l
  | _, [], _ => trivial
  | _, _ :: _, h => ⟨fun ad e => by
      obtain ⟨ad', e', hat⟩ := h.1
      rw [e] at e'; injection e' with e'; subst e'
      have := lt_of_cell (hat 0 _ rfl)
      rwa [block_of_add, block_of_add] at this, D.In.lo h.2.1, D.InL.lo h.2.2⟩
end
mutual
theorem D.Lo.mono {B B' : Nat} (hB : B ≤ B') : ∀ {d : D}, d.Lo B → d.Lo B'
  | .mk _ _ _ _ _ _ _, h => D.LoL.mono hB h
theorem D.LoL.mono {B B' : Nat} (hB : B ≤ B') {A : Option Addr} : ∀ {l : List D}, D.LoL B A l → D.LoL B' A l
  | [], _ => trivial
  | _ :: _, h => ⟨fun ad e => Nat.lt_of_lt_of_le (h.1 ad e) hB, D.Lo.mono hB h.2.1, D.LoL.mono hB h.2.2⟩
end
theorem D.LoL.at_ {B : Nat} {A : Option Addr} : ∀ {l : List D} (_ : D.LoL B A l) {q : Nat} {d : D}, l[q]? = some d → (∀ ad, A = some ad → ad.block < B) ∧ d.Lo B
  | [], _, q, d, hq => by simp at hq
  | x :: l, h, 0, d, hq => by
    have : x = d := by simpa using hq
    subst this
    exact ⟨h.1, h.2.1⟩
  | x :: l, h, q + 1, d, hq => D.LoL.at_ h.2.2 (q := q) (d := d) (by simpa using hq)
theorem At.below' {B : Nat} {w w' : World} {a : Addr} {xs : List Value} (h : At w a xs) (ha : a.block < B) (hb : Below B w w') : At w' a xs := fun q u hu => by
  have := h q u hu
  exact (hb.cell (by rwa [block_of_add])).trans this
mutual
theorem D.In.below' {B : Nat} {w w' : World} (hb : Below B w w') : ∀ {d : D}, d.In w → d.Lo B → d.In w'
  | .mk _ _ _ _ _ _ _, h, k => ⟨h.1, D.InL.below' hb h.2 k⟩
theorem D.InL.below' {B : Nat} {w w' : World} (hb : Below B w w') {A : Option Addr} : ∀ {j : Nat} {l : List D}, D.InL w A j l → D.LoL B A l → D.InL w' A j l
  | _, [], _, _ => trivial
  | _, _ :: _, h, k => ⟨let ⟨ad, e, hat⟩ := h.1; ⟨ad, e, hat.below' (by rw [block_of_add]; exact k.1 ad e) hb⟩, D.In.below' hb h.2.1 k.2.1, D.InL.below' hb h.2.2 k.2.2⟩
end

mutual
/-- datum.look -/
def D.look : D → Int → Int → Int → Bool × Int × Int
  | .mk k i b t A c l, deep, p, m => if 4096 < p + 1 ∨ 16 < deep ∨ (D.mk k i b t A c l).head = false then (false, p + 1, max m deep) else D.lookL l (deep + 1) (p + 1) (max m deep)
def D.lookL : List D → Int → Int → Int → Bool × Int × Int
  | [], _, p, m => (true, p, m)
  | x :: l, deep, p, m => if (x.look deep p m).1 then D.lookL l deep (x.look deep p m).2.1 (x.look deep p m).2.2 else (false, (x.look deep p m).2)
end
mutual
theorem D.look_bd : ∀ (d : D) (deep p m : Int), p ≤ 4096 → p ≤ (d.look deep p m).2.1 ∧ (d.look deep p m).2.1 ≤ 4097 ∧ m ≤ (d.look deep p m).2.2 ∧ (d.look deep p m).2.2 ≤ max m (max 17 deep) ∧ ((d.look deep p m).1 = true → (d.look deep p m).2.1 ≤ 4096)
  | .mk k i b t A c l, deep, p, m, h => by
    rw [D.look]
    split
    · exact ⟨by simp only; omega, by simp only; omega, by simp only; omega, by simp only; omega, by simp⟩
    · have := D.lookL_bd l (deep + 1) (p + 1) (max m deep) (by omega) (by omega)
      exact ⟨by omega, this.2.1, by omega, by omega, this.2.2.2.2⟩
theorem D.lookL_bd : ∀ (l : List D) (deep p m : Int), p ≤ 4096 → deep ≤ 17 → p ≤ (D.lookL l deep p m).2.1 ∧ (D.lookL l deep p m).2.1 ≤ 4097 ∧ m ≤ (D.lookL l deep p m).2.2 ∧ (D.lookL l deep p m).2.2 ≤ max m 17 ∧ ((D.lookL l deep p m).1 = true → (D.lookL l deep p m).2.1 ≤ 4096)
  | [], deep, p, m, h, _ => by rw [D.lookL]; exact ⟨by simp, by simp; omega, by simp, by simp; omega, fun _ => h⟩
  | x :: l, deep, p, m, h, hd => by
    have hx := D.look_bd x deep p m h
    rw [D.lookL]
    split
    · rename_i e
      have := D.lookL_bd l deep _ (x.look deep p m).2.2 (hx.2.2.2.2 e) hd
      exact ⟨by omega, this.2.1, by omega, by omega, this.2.2.2.2⟩
    · exact ⟨hx.1, hx.2.1, hx.2.2.1, by simp only; omega, by simp⟩
end
end Go.Proofs.YtbhmeapnmpgggaaGreatDoor
/- Plain: datum's look and the reference's count and right say the same. No condition; no program. -/
namespace Go.Proofs.YtbhmeapnmpgggaaGreatDoor

mutual
def D.depth : D → Nat
  | .mk _ _ _ _ _ _ l => 1 + D.depthL l
def D.depthL : List D → Nat
  | [] => 0
  | d :: l => max d.depth (D.depthL l)
end
theorem D.size_pos (d : D) : 1 ≤ d.size := by rw [D.size_eq]; omega
theorem D.depth_pos (d : D) : 1 ≤ d.depth := by cases d; rw [D.depth]; omega

mutual
theorem D.count_good : ∀ (d : D) (deep left : Int), left ≤ 4096 → deep + d.depth ≤ 17 → (d.size : Int) ≤ left → d.count deep left = ((d.size : Int), deep + d.depth - 1)
  | .mk _ _ _ _ _ _ l, deep, left, hl, h1, h2 => by
    rw [D.depth] at h1
    rw [D.size] at h2
    rw [D.count, if_neg (by omega), D.countL_good l deep left 1 deep hl (by omega) (by omega) (by omega) (by omega) (by omega), D.size, D.depth]
    ext <;> simp <;> omega
theorem D.countL_good : ∀ (l : List D) (deep left n most : Int), left ≤ 4096 → deep ≤ most → most ≤ 16 → 0 ≤ n → n + (D.sizeL l : Int) ≤ left → deep + (D.depthL l : Int) ≤ 16 →
    D.countL l deep left n most = (n + D.sizeL l, max most (deep + D.depthL l))
  | [], deep, left, n, most, _, h, _, _, _, _ => by rw [D.countL]; simp [D.sizeL, D.depthL]; omega
  | x :: l, deep, left, n, most, hl, h, h0, h1, h2, h3 => by
    rw [D.sizeL] at h2 ⊢
    rw [D.depthL] at h3 ⊢
    have hp := D.size_pos x
    have hx := D.count_good x (deep + 1) (left - n) (by omega) (by omega) (by omega)
    rw [D.countL, hx]
    simp only
    rw [if_neg (by omega), D.countL_good l deep left _ _ hl (by omega) (by omega) (by omega) (by omega) (by omega)]
    ext <;> simp <;> omega
end
mutual
theorem D.count_bad : ∀ (d : D) (deep left : Int), left ≤ 4096 → ¬ (deep + d.depth ≤ 17 ∧ (d.size : Int) ≤ left) → (d.count deep left).1 = 4097
  | .mk k i b t A c l, deep, left, hl, h => by
    rw [D.depth, D.size] at h
    rw [D.count]
    by_cases g : 16 < deep ∨ left ≤ 0
    · rw [if_pos g]
    · rw [if_neg g]
      exact D.countL_bad l deep left 1 deep hl (by omega) (by omega) (by omega) (by omega) (by omega)
theorem D.countL_bad : ∀ (l : List D) (deep left n most : Int), left ≤ 4096 → deep ≤ most → most ≤ 16 → 0 ≤ n → n ≤ left → ¬ (n + (D.sizeL l : Int) ≤ left ∧ deep + (D.depthL l : Int) ≤ 16) →
    (D.countL l deep left n most).1 = 4097
  | [], deep, left, n, most, _, h, h0, _, h1, h2 => by
    exfalso
    simp only [D.sizeL, D.depthL] at h2
    omega
  | x :: l, deep, left, n, most, hl, h, h0, h1, h2, h3 => by
    rw [D.sizeL, D.depthL] at h3
    have hp := D.size_pos x
    by_cases g : deep + 1 + x.depth ≤ 17 ∧ (x.size : Int) ≤ left - n
    · have hx := D.count_good x (deep + 1) (left - n) (by omega) (by omega) (by omega)
      rw [D.countL, hx]
      simp only
      rw [if_neg (by omega)]
      exact D.countL_bad l deep left _ _ hl (by omega) (by omega) (by omega) (by omega) (by omega)
    · have hx := D.count_bad x (deep + 1) (left - n) (by omega) g
      rw [D.countL, hx, if_pos (.inl (by omega))]
end

mutual
theorem D.look_good : ∀ (d : D) (deep p m : Int), deep + d.depth ≤ 17 → p + d.size ≤ 4096 → d.right = true → d.look deep p m = (true, p + d.size, max m (deep + d.depth - 1))
  | .mk k i b t A c l, deep, p, m, h1, h2, h3 => by
    rw [D.depth] at h1
    rw [D.size] at h2
    rw [D.right, Bool.and_eq_true] at h3
    rw [D.look, if_neg (by rw [h3.1]; simp; omega), D.lookL_good l (deep + 1) (p + 1) _ (by omega) (by omega) (by omega) h3.2, D.size, D.depth]
    ext <;> simp <;> omega
theorem D.lookL_good : ∀ (l : List D) (deep p m : Int), deep - 1 ≤ m → deep + D.depthL l ≤ 17 → p + D.sizeL l ≤ 4096 → D.rightL l = true → D.lookL l deep p m = (true, p + D.sizeL l, max m (deep + D.depthL l - 1))
  | [], deep, p, m, h, _, _, _ => by rw [D.lookL]; simp [D.sizeL, D.depthL]; omega
  | x :: l, deep, p, m, h, h1, h2, h3 => by
    rw [D.sizeL] at h2 ⊢
    rw [D.depthL] at h1 ⊢
    rw [D.rightL, Bool.and_eq_true] at h3
    have hp := D.depth_pos x
    rw [D.lookL, D.look_good x deep p m (by omega) (by omega) h3.1, if_pos rfl]
    simp only
    rw [D.lookL_good l deep _ _ (by omega) (by omega) (by omega) h3.2]
    ext <;> simp <;> omega
end
mutual
theorem D.look_bad : ∀ (d : D) (deep p m : Int), ¬ (deep + d.depth ≤ 17 ∧ p + d.size ≤ 4096 ∧ d.right = true) → (d.look deep p m).1 = false
  | .mk k i b t A c l, deep, p, m, h => by
    rw [D.depth, D.size, D.right, Bool.and_eq_true] at h
    rw [D.look]
    by_cases g : 4096 < p + 1 ∨ 16 < deep ∨ (D.mk k i b t A c l).head = false
    · rw [if_pos g]
    · rw [if_neg g]
      have hh : (D.mk k i b t A c l).head = true := by
        cases e : (D.mk k i b t A c l).head
        · exact absurd (.inr (.inr e)) g
        · rfl
      exact D.lookL_bad l (deep + 1) (p + 1) _ (by omega) (by omega) (fun ⟨a, b, c⟩ => h ⟨by omega, by omega, hh, c⟩)
theorem D.lookL_bad : ∀ (l : List D) (deep p m : Int), deep ≤ 17 → p ≤ 4096 → ¬ (deep + D.depthL l ≤ 17 ∧ p + D.sizeL l ≤ 4096 ∧ D.rightL l = true) → (D.lookL l deep p m).1 = false
  | [], deep, p, m, h, h', g => absurd ⟨by simp [D.depthL]; omega, by simp [D.sizeL]; omega, by simp [D.rightL]⟩ g
  | x :: l, deep, p, m, h, h', g => by
    rw [D.sizeL, D.depthL, D.rightL, Bool.and_eq_true] at g
    rw [D.lookL]
    by_cases e : deep + x.depth ≤ 17 ∧ p + x.size ≤ 4096 ∧ x.right = true
    · rw [D.look_good x deep p m e.1 e.2.1 e.2.2, if_pos rfl]
      exact D.lookL_bad l deep _ _ h (by simp only; omega) (fun ⟨a, b, c⟩ => g ⟨by omega, by simp only at b; omega, e.2.2, c⟩)
    · rw [if_neg (by rw [D.look_bad x deep p m e]; simp)]
end

def D.valid0 (d : D) : Bool := (d.look 1 0 0).1
def D.valid1 (d : D) : Bool := decide ((d.count 1 4096).1 ≤ 4096) && decide ((d.count 1 4096).2 ≤ 16) && d.right
/-- what both say -/
def D.Ok (d : D) : Prop := d.depth ≤ 16 ∧ d.size ≤ 4096 ∧ d.right = true
theorem D.valid0_iff (d : D) : d.valid0 = true ↔ d.Ok := by
  unfold D.valid0
  constructor
  · intro h
    by_cases g : (1 : Int) + d.depth ≤ 17 ∧ (0 : Int) + d.size ≤ 4096 ∧ d.right = true
    · exact ⟨by omega, by omega, g.2.2⟩
    · rw [D.look_bad d 1 0 0 g] at h; cases h
  · rintro ⟨h1, h2, h3⟩
    rw [D.look_good d 1 0 0 (by omega) (by omega) h3]
theorem D.valid1_iff (d : D) : d.valid1 = true ↔ d.Ok := by
  unfold D.valid1
  rw [Bool.and_eq_true, Bool.and_eq_true, decide_eq_true_eq, decide_eq_true_eq]
  constructor
  · rintro ⟨⟨h1, h2⟩, h3⟩
    by_cases g : (1 : Int) + d.depth ≤ 17 ∧ (d.size : Int) ≤ 4096
    · exact ⟨by omega, by omega, h3⟩
    · rw [D.count_bad d 1 4096 (by omega) g] at h1; omega
  · rintro ⟨h1, h2, h3⟩
    rw [D.count_good d 1 4096 (by omega) (by omega) (by omega)]
    exact ⟨⟨by simp only; omega, by simp only; omega⟩, h3⟩
theorem D.valid_eq (d : D) : d.valid0 = d.valid1 := by
  rw [Bool.eq_iff_iff, D.valid0_iff, D.valid1_iff]
theorem D.parts_eq (d : D) (h : d.Ok) : (d.look 1 0 0).2 = d.count 1 4096 ∧ d.count 1 4096 = ((d.size : Int), (d.depth : Int)) := by
  obtain ⟨h1, h2, h3⟩ := h
  have hp := D.depth_pos d
  rw [D.count_good d 1 4096 (by omega) (by omega) (by omega), D.look_good d 1 0 0 (by omega) (by omega) h3]
  exact ⟨by ext <;> simp <;> omega, by ext <;> simp <;> omega⟩
end Go.Proofs.YtbhmeapnmpgggaaGreatDoor
