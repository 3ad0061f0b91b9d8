/- Blocks of a call's own, what a call leaves as it was, addresses below a bound; the plain function of datum.look. No condition. -/
import Derived.Test.YtbhmeapnmpgggaaGreatDoorBase
import Derived.Laws.Rows
namespace Go.Proofs.YtbhmeapnmpgggaaGreatDoor
open Go.RowKit

/-- all old blocks but those of the list are as they were -/
structure Kept (bs : List Nat) (w w' : World) : Prop where
  os : w'.os = w.os
  tape : w'.tape = w.tape
  output : w'.output = w.output
  size : w.heap.size ≤ w'.heap.size
  block : ∀ k, k < w.heap.size → k ∉ bs → w'.heap[k]? = w.heap[k]?
namespace Kept
variable {bs : List Nat} {a b c w w' : World}
theorem refl (bs : List Nat) (w : World) : Kept bs w w := ⟨rfl, rfl, rfl, Nat.le_refl _, fun _ _ _ => rfl⟩
theorem trans (h : Kept bs a b) (k : Kept bs b c) : Kept bs a c :=
  ⟨k.os.trans h.os, k.tape.trans h.tape, k.output.trans h.output, Nat.le_trans h.size k.size, fun i hi hn => (k.block i (Nat.lt_of_lt_of_le hi h.size) hn).trans (h.block i hi hn)⟩
theorem mono {bs' : List Nat} (h : Kept bs a b) (hs : ∀ k, k < a.heap.size → k ∈ bs → k ∈ bs') : Kept bs' a b :=
  ⟨h.os, h.tape, h.output, h.size, fun i hi hn => h.block i hi fun hm => hn (hs i hi hm)⟩
theorem of_below (h : Below a.heap.size a b) (bs : List Nat) : Kept bs a b := ⟨h.os, h.tape, h.output, h.size, fun i hi _ => h.block i hi⟩
theorem below {B : Nat} (h : Kept bs a b) (hB : B ≤ a.heap.size) (hs : ∀ k ∈ bs, B ≤ k) : Below B a b :=
  ⟨h.os, h.tape, h.output, h.size, fun i hi => h.block i (by omega) fun hm => by have := hs i hm; omega⟩
theorem drew (h : Kept bs a b) : Kept bs a b.drew := ⟨h.os, h.tape, h.output, h.size, h.block⟩
theorem drewN (h : Kept bs a b) (n : Nat) : Kept bs a (b.drewN n) := ⟨h.os, h.tape, h.output, h.size, h.block⟩
theorem alloc (h : Kept bs a b) (o : Obj) : Kept bs a (b.alloc o) := h.trans (of_below ((Below.refl _ _).alloc (Nat.le_refl _) o) bs)
theorem setCell (h : Kept bs a b) {p : Addr} (hp : p.block ∈ bs ∨ a.heap.size ≤ p.block) (u : Value) : Kept bs a (b.setCell p u) :=
  ⟨h.os, h.tape, h.output, by simpa [World.setCell] using h.size, fun i hi hn => (Below.heap_setCell b p u i (fun e => by
    rcases hp with hp | hp
    · exact hn (e ▸ hp)
    · omega)).trans (h.block i hi hn)⟩
end Kept

/-- block g is just these cells, none frozen -/
def Blk (w : World) (g : Nat) (t : TypeId) (cs : Array Value) : Prop := w.heap[g]? = some (.cells cs t (0, 0))
namespace Blk
variable {w w' : World} {g : Nat} {t : TypeId} {cs : Array Value}
theorem lt (h : Blk w g t cs) : g < w.heap.size := by
  rcases Nat.lt_or_ge g w.heap.size with hlt | hge
  · exact hlt
  · unfold Blk at h; rw [Array.getElem?_eq_none hge] at h; cases h
theorem cell (h : Blk w g t cs) (i : Nat) : w.cell? ⟨g, i, none⟩ = cs[i]? :=
  cell_of_row w g i cs t (0, 0) h
theorem frozen (h : Blk w g t cs) (i : Nat) : w.frozen? ⟨g, i, none⟩ = false := by
  unfold Blk at h
  simp [World.frozen?, h]
theorem new (w : World) (t : TypeId) (cs : Array Value) : Blk (w.alloc (.cells cs t)) w.heap.size t cs := by
  unfold Blk
  show (w.heap.push _)[w.heap.size]? = _
  simp
theorem new' {w : World} {g : Nat} (h : w.heap.size = g) (t : TypeId) (cs : Array Value) : Blk (w.alloc (.cells cs t)) g t cs := h ▸ Blk.new w t cs
theorem drew (h : Blk w g t cs) : Blk w.drew g t cs := h
theorem alloc (h : Blk w g t cs) (o : Obj) : Blk (w.alloc o) g t cs := (Below.heap_alloc w o g h.lt).trans h
theorem set_ (h : Blk w g t cs) (i : Nat) (u : Value) : Blk (w.setCell ⟨g, i, none⟩ u) g t (cs.setIfInBounds i u) := by
  unfold Blk at h ⊢
  simp [World.setCell, Array.getElem?_modify, h]
theorem far (h : Blk w g t cs) {p : Addr} (hp : g ≠ p.block) (u : Value) : Blk (w.setCell p u) g t cs := (Below.heap_setCell w p u g hp).trans h
theorem below {B : Nat} (h : Blk w g t cs) (hb : Below B w w') (hg : g < B) : Blk w' g t cs := (hb.block g hg).trans h
theorem kept {bs : List Nat} (h : Blk w g t cs) (hb : Kept bs w w') (hg : g ∉ bs) : Blk w' g t cs := (hb.block g h.lt hg).trans h
end Blk

mutual
/-- all of its addresses lie below block B -/
def D.Lo (B : Nat) : D → Prop
  | .mk _ _ _ _ A _ l => D.LoL B A l
def D.LoL (B : Nat) (A : Option Addr) : List D → Prop
  | [] => True
  | d :: l => (∀ ad, A = some ad → ad.block < B) ∧ d.Lo B ∧ D.LoL B A l
end
mutual
theorem D.In.lo {w : World} : ∀ {d : D}, d.In w → d.Lo w.heap.size
  | .mk _ _ _ _ _ _ _, h => D.InL.lo h.2
theorem D.InL.lo {w : World} {A : Option Addr} : ∀ {j : Nat} {l : List D}, D.InL w A j l → D.LoL w.heap.size A l
  | _, [], _ => trivial
  | _, _ :: _, h => ⟨fun ad e => by
      obtain ⟨ad', e', hat⟩ := h.1
      rw [e] at e'; injection e' with e'; subst e'
      have := lt_of_cell (hat 0 _ rfl)
      rwa [block_of_add, block_of_add] at this, D.In.lo h.2.1, D.InL.lo h.2.2⟩
end
mutual
theorem D.Lo.mono {B B' : Nat} (hB : B ≤ B') : ∀ {d : D}, d.Lo B → d.Lo B'
  | .mk _ _ _ _ _ _ _, h => D.LoL.mono hB h
theorem D.LoL.mono {B B' : Nat} (hB : B ≤ B') {A : Option Addr} : ∀ {l : List D}, D.LoL B A l → D.LoL B' A l
  | [], _ => trivial
  | _ :: _, h => ⟨fun ad e => Nat.lt_of_lt_of_le (h.1 ad e) hB, D.Lo.mono hB h.2.1, D.LoL.mono hB h.2.2⟩
end
theorem D.LoL.at_ {B : Nat} {A : Option Addr} : ∀ {l : List D} (_ : D.LoL B A l) {q : Nat} {d : D}, l[q]? = some d → (∀ ad, A = some ad → ad.block < B) ∧ d.Lo B
  | [], _, q, d, hq => by simp at hq
  | x :: l, h, 0, d, hq => by
    have : x = d := by simpa using hq
    subst this
    exact ⟨h.1, h.2.1⟩
  | x :: l, h, q + 1, d, hq => D.LoL.at_ h.2.2 (q := q) (d := d) (by simpa using hq)
theorem At.below' {B : Nat} {w w' : World} {a : Addr} {xs : List Value} (h : At w a xs) (ha : a.block < B) (hb : Below B w w') : At w' a xs := fun q u hu => by
  have := h q u hu
  exact (hb.cell (by rwa [block_of_add])).trans this
mutual
theorem D.In.below' {B : Nat} {w w' : World} (hb : Below B w w') : ∀ {d : D}, d.In w → d.Lo B → d.In w'
  | .mk _ _ _ _ _ _ _, h, k => ⟨h.1, D.InL.below' hb h.2 k⟩
theorem D.InL.below' {B : Nat} {w w' : World} (hb : Below B w w') {A : Option Addr} : ∀ {j : Nat} {l : List D}, D.InL w A j l → D.LoL B A l → D.InL w' A j l
  | _, [], _, _ => trivial
  | _, _ :: _, h, k => ⟨let ⟨ad, e, hat⟩ := h.1; ⟨ad, e, hat.below' (by rw [block_of_add]; exact k.1 ad e) hb⟩, D.In.below' hb h.2.1 k.2.1, D.InL.below' hb h.2.2 k.2.2⟩
end

mutual
/-- datum.look -/
def D.look : D → Int → Int → Int → Bool × Int × Int
  | .mk k i b t A c l, deep, p, m => if 4096 < p + 1 ∨ 16 < deep ∨ (D.mk k i b t A c l).head = false then (false, p + 1, max m deep) else D.lookL l (deep + 1) (p + 1) (max m deep)
def D.lookL : List D → Int → Int → Int → Bool × Int × Int
  | [], _, p, m => (true, p, m)
  | x :: l, deep, p, m => if (x.look deep p m).1 then D.lookL l deep (x.look deep p m).2.1 (x.look deep p m).2.2 else (false, (x.look deep p m).2)
end
mutual
theorem D.look_bd : ∀ (d : D) (deep p m : Int), p ≤ 4096 → p ≤ (d.look deep p m).2.1 ∧ (d.look deep p m).2.1 ≤ 4097 ∧ m ≤ (d.look deep p m).2.2 ∧ (d.look deep p m).2.2 ≤ max m (max 17 deep) ∧ ((d.look deep p m).1 = true → (d.look deep p m).2.1 ≤ 4096)
  | .mk k i b t A c l, deep, p, m, h => by
    rw [D.look]
    split
    · exact ⟨by simp only; omega, by simp only; omega, by simp only; omega, by simp only; omega, by simp⟩
    · have := D.lookL_bd l (deep + 1) (p + 1) (max m deep) (by omega) (by omega)
      exact ⟨by omega, this.2.1, by omega, by omega, this.2.2.2.2⟩
theorem D.lookL_bd : ∀ (l : List D) (deep p m : Int), p ≤ 4096 → deep ≤ 17 → p ≤ (D.lookL l deep p m).2.1 ∧ (D.lookL l deep p m).2.1 ≤ 4097 ∧ m ≤ (D.lookL l deep p m).2.2 ∧ (D.lookL l deep p m).2.2 ≤ max m 17 ∧ ((D.lookL l deep p m).1 = true → (D.lookL l deep p m).2.1 ≤ 4096)
  | [], deep, p, m, h, _ => by rw [D.lookL]; exact ⟨by simp, by simp; omega, by simp, by simp; omega, fun _ => h⟩
  | x :: l, deep, p, m, h, hd => by
    have hx := D.look_bd x deep p m h
    rw [D.lookL]
    split
    · rename_i e
      have := D.lookL_bd l deep _ (x.look deep p m).2.2 (hx.2.2.2.2 e) hd
      exact ⟨by omega, this.2.1, by omega, by omega, this.2.2.2.2⟩
    · exact ⟨hx.1, hx.2.1, hx.2.2.1, by simp only; omega, by simp⟩
end
end Go.Proofs.YtbhmeapnmpgggaaGreatDoor
