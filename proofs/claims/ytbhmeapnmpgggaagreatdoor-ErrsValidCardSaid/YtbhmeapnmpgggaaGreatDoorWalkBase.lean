/- errs.walk: what it does with a tree, in plain words; what its callee must keep. No condition. -/
import Derived.Test.YtbhmeapnmpgggaaGreatDoorUnwrapM
import Derived.Test.YtbhmeapnmpgggaaGreatDoorCan
import Derived.Test.YtbhmeapnmpgggaaGreatDoorPlainE
namespace Go.Proofs.YtbhmeapnmpgggaaGreatDoor
open Go.RowKit

section
variable {S : Type}
mutual
/-- the state behind a walk, and how it ends: 0 gone through, 1 told to stop, 2 panicked -/
def E.walk (st : S → E → List Int → S × Nat) : E → List Int → S → S × Nat
  | .mk k id code t body cA cc codes A c l, way, s => if k = 0 then (s, 0) else
    if (st s (E.mk k id code t body cA cc codes A c l) way).2 = 0 then E.walkL st l 0 way (st s (E.mk k id code t body cA cc codes A c l) way).1 else st s (E.mk k id code t body cA cc codes A c l) way
def E.walkL (st : S → E → List Int → S × Nat) : List E → Nat → List Int → S → S × Nat
  | [], _, _, s => (s, 0)
  | x :: l, j, way, s => if (x.walk st (way ++ [(j : Int)]) s).2 = 0 then E.walkL st l (j + 1) way (x.walk st (way ++ [(j : Int)]) s).1 else x.walk st (way ++ [(j : Int)]) s
end
end
def walkEnd (bad : Ending) : Nat → Ending
  | 0 => .returned (.bool true)
  | 1 => .returned (.bool false)
  | _ => bad
/-- a way lies in the world, in a block from B on -/
def Way (B : Nat) (w : World) (ao : Option Addr) (c : Nat) (way : List Int) : Prop :=
  way.length ≤ c ∧ c ≤ 9223372036854775807 ∧ way.length ≤ 4096 ∧ (ao = none → way = [] ∧ c = 0) ∧ (∀ ad, ao = some ad → B ≤ ad.block) ∧ CodesIn w ao way
theorem Way.turn {B : Nat} {w w' : World} {ao : Option Addr} {c : Nat} {way : List Int} (h : Way B w ao c way) (ht : ∀ a v, B ≤ a.block → w.cell? a = some v → w'.cell? a = some v) : Way B w' ao c way :=
  ⟨h.1, h.2.1, h.2.2.1, h.2.2.2.1, h.2.2.2.2.1, fun q x hq => by
    obtain ⟨ad, e, hc⟩ := h.2.2.2.2.2 q x hq
    exact ⟨ad, e, ht _ _ (by rw [block_of_add]; exact h.2.2.2.2.1 ad e) hc⟩⟩
theorem Way.below {B : Nat} {w w' : World} {ao : Option Addr} {c : Nat} {way : List Int} (h : Way B w ao c way) (hb : Below w.heap.size w w') : Way B w' ao c way :=
  h.turn fun _ _ _ hc => (hb.cell (lt_of_cell hc)).trans hc
theorem Kept.cell {bs : List Nat} {w w' : World} (hb : Kept bs w w') {a : Addr} {v : Value} (hn : a.block ∉ bs) (hc : w.cell? a = some v) : w'.cell? a = some v := by
  have := hb.block a.block (lt_of_cell hc) hn
  unfold World.cell? at hc ⊢
  rw [this]
  exact hc
theorem Way.kept {B : Nat} {bs : List Nat} {w w' : World} {ao : Option Addr} {c : Nat} {way : List Int} (h : Way B w ao c way) (hb : Kept bs w w') (hs : ∀ k ∈ bs, k < B) : Way B w' ao c way :=
  h.turn fun a _ ha hc => hb.cell (fun hm => by have := hs _ hm; omega) hc
theorem Way.clip {B : Nat} {w : World} {ao : Option Addr} {c : Nat} {way : List Int} (h : Way B w ao c way) : Way B w ao way.length way :=
  ⟨Nat.le_refl _, by have := h.2.2.1; omega, h.2.2.1, fun e => ⟨(h.2.2.2.1 e).1, by rw [(h.2.2.2.1 e).1]; rfl⟩, h.2.2.2.2⟩

/-- the block that an error value points to -/
def ptrBlock : Value → Option Nat
  | .pointer (some a) => some a.block
  | _ => none
def evBlock : Value → Option Nat
  | .iface _ (.agg cs) => cs[0]?.bind ptrBlock
  | .iface _ v => ptrBlock v
  | _ => none
/-- v is the error value of e; its block is none of the list's -/
def EVn (bs : List Nat) (w : World) (e : E) (v : Value) : Prop := EV 0 w e v ∧ ∀ g, evBlock v = some g → g ∉ bs
theorem EVn.of {B : Nat} {bs : List Nat} {w : World} {e : E} {v : Value} (hv : EV B w e v) (hs : ∀ k ∈ bs, k < B) : EVn bs w e v := by
  refine ⟨hv.mono (Nat.zero_le _), fun g hg hm => ?_⟩
  have hlt := hs g hm
  unfold EV at hv
  rcases hv with ⟨a, rfl⟩ | ⟨a, g', b, rfl, d⟩ | ⟨a, g', b, rfl, d⟩ | ⟨a, g', b, rfl, d⟩ | ⟨a, g', b, rfl, d⟩ | ⟨a, rfl⟩ | ⟨a, rfl⟩ | ⟨a, g', b, rfl, d⟩ | ⟨a, g', b, rfl, d⟩ | ⟨a, rfl⟩ | ⟨a, rfl⟩ <;> simp [evBlock, ptrBlock] at hg <;> omega
theorem EVn.below {bs : List Nat} {w w' : World} {e : E} {v : Value} (hv : EVn bs w e v) (hb : Below w.heap.size w w') : EVn bs w' e v := ⟨hv.1.below hb, hv.2⟩
theorem EVn.kept {bs : List Nat} {w w' : World} {e : E} {v : Value} (hv : EVn bs w e v) (hb : Kept bs w w') : EVn bs w' e v := by
  refine ⟨?_, hv.2⟩
  obtain ⟨hv, h2⟩ := hv
  unfold EV at hv ⊢
  rcases hv with ⟨a, rfl⟩ | ⟨a, g', b, rfl, d⟩ | ⟨a, g', b, rfl, d⟩ | ⟨a, g', b, rfl, d⟩ | ⟨a, g', b, rfl, d⟩ | ⟨a, rfl⟩ | ⟨a, rfl⟩ | ⟨a, g', b, rfl, d⟩ | ⟨a, g', b, rfl, d⟩ | ⟨a, rfl⟩ | ⟨a, rfl⟩
  · exact .inl ⟨a, rfl⟩
  · exact .inr (.inl ⟨a, g', b, rfl, d.kept hb (h2 g' rfl)⟩)
  · exact .inr (.inr (.inl ⟨a, g', b, rfl, d.kept hb (h2 g' rfl)⟩))
  · exact .inr (.inr (.inr (.inl ⟨a, g', b, rfl, d.kept hb (h2 g' rfl)⟩)))
  · exact .inr (.inr (.inr (.inr (.inl ⟨a, g', b, rfl, d.kept hb (h2 g' rfl)⟩))))
  · exact .inr (.inr (.inr (.inr (.inr (.inl ⟨a, rfl⟩)))))
  · exact .inr (.inr (.inr (.inr (.inr (.inr (.inl ⟨a, rfl⟩))))))
  · exact .inr (.inr (.inr (.inr (.inr (.inr (.inr (.inl ⟨a, g', b, rfl, d.kept hb (h2 g' rfl)⟩)))))))
  · exact .inr (.inr (.inr (.inr (.inr (.inr (.inr (.inr (.inl ⟨a, g', b, rfl, d.kept hb (h2 g' rfl)⟩))))))))
  · exact .inr (.inr (.inr (.inr (.inr (.inr (.inr (.inr (.inr (.inl ⟨a, rfl⟩)))))))))
  · exact .inr (.inr (.inr (.inr (.inr (.inr (.inr (.inr (.inr (.inr ⟨a, rfl⟩)))))))))

/-- what a walk is given: the trees lie below B, the callee's own blocks from B on and below B2; all else that the walk makes lies from B2 on -/
structure Doer {S : Type} (st : S → E → List Int → S × Nat) (P : S → World → Prop) (bs : List Nat) (B B2 F : Nat) (caps : Array Value) (chain : List PanicEntry) : Prop where
  hbs : ∀ k ∈ bs, B ≤ k ∧ k < B2
  hB : B ≤ B2
  stays : ∀ s w w', P s w → Below w.heap.size w w' → P s w'
  enters : ∀ args w, (callFunc F args).run Tryz.prog w = .ok (.enter F args) w
  does : ∀ s e way v ao c w, P s w → e.In w → e.Lo B → e.right = true → e.k ≠ 0 → EVn bs w e v → Way B2 w ao c way → B2 ≤ w.heap.size →
    Calls Tryz.prog F (#[v, .slice ao way.length c] ++ caps) w (fun en w' => Kept bs w w' ∧ en = walkEnd (.panicked chain) (st s e way).2 ∧ P (st s e way).1 w')
/-- how it goes: of the tree e, from state s on, by the way 'way' -/
def Goes {S : Type} (st : S → E → List Int → S × Nat) (P : S → World → Prop) (bs : List Nat) (chain : List PanicEntry) (w : World) (r : S × Nat) (en : Ending) (w' : World) : Prop := Kept bs w w' ∧ en = walkEnd (.panicked chain) r.2 ∧ P r.1 w'
end Go.Proofs.YtbhmeapnmpgggaaGreatDoor
