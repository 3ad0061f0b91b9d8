/- Trees without their addresses: what does not look at addresses answers alike of both. No condition. -/
import Derived.Test.YtbhmeapnmpgggaaGreatDoorIsR2
import Derived.Maps.AppendAt
namespace Go.Proofs.YtbhmeapnmpgggaaGreatDoor

mutual
/-- the tree, all addresses and capacities taken out -/
def D.bare : D → D
  | .mk k i b t _ _ l => .mk k i b t none 0 (D.bareL l)
def D.bareL : List D → List D
  | [] => []
  | x :: l => x.bare :: D.bareL l
end
theorem D.bare_k (d : D) : d.bare.k = d.k := by cases d; rw [D.bare]; rfl
theorem D.bare_i (d : D) : d.bare.i = d.i := by cases d; rw [D.bare]; rfl
theorem D.bare_b (d : D) : d.bare.b = d.b := by cases d; rw [D.bare]; rfl
theorem D.bare_t (d : D) : d.bare.t = d.t := by cases d; rw [D.bare]; rfl
theorem D.bare_l (d : D) : d.bare.l = D.bareL d.l := by cases d; rw [D.bare]; rfl
theorem D.bareL_eq : ∀ l : List D, D.bareL l = l.map D.bare
  | [] => rfl
  | x :: l => by rw [D.bareL, D.bareL_eq l]; rfl
theorem D.bareL_len (l : List D) : (D.bareL l).length = l.length := by rw [D.bareL_eq, List.length_map]
mutual
theorem D.bare_size : ∀ d : D, d.bare.size = d.size
  | .mk k i b t A c l => by rw [D.bare, D.size, D.size, D.bareL_size l]
theorem D.bareL_size : ∀ l : List D, D.sizeL (D.bareL l) = D.sizeL l
  | [] => rfl
  | x :: l => by rw [D.bareL, D.sizeL, D.sizeL, D.bare_size x, D.bareL_size l]
end
mutual
theorem D.bare_depth : ∀ d : D, d.bare.depth = d.depth
  | .mk k i b t A c l => by rw [D.bare, D.depth, D.depth, D.bareL_depth l]
theorem D.bareL_depth : ∀ l : List D, D.depthL (D.bareL l) = D.depthL l
  | [] => rfl
  | x :: l => by rw [D.bareL, D.depthL, D.depthL, D.bare_depth x, D.bareL_depth l]
end
mutual
theorem D.req_bare : ∀ (d y : D), d.bare.req y = d.req y
  | .mk k i b t A c l, y => by rw [D.bare, D.req, D.req, D.reqL_bare l]
theorem D.reqL_bare : ∀ (l m : List D), D.reqL (D.bareL l) m = D.reqL l m
  | [], m => by cases m <;> rfl
  | x :: l, [] => by rw [D.bareL]; rfl
  | x :: l, y :: m => by rw [D.bareL, D.reqL, D.reqL, D.req_bare x, D.reqL_bare l]
end
mutual
theorem D.req_bare2 : ∀ (d y : D), d.req y.bare = d.req y
  | .mk k i b t A c l, y => by rw [D.req, D.req, D.bare_k, D.bare_i, D.bare_b, D.bare_t, D.bare_l, D.reqL_bare2 l]
theorem D.reqL_bare2 : ∀ (l m : List D), D.reqL l (D.bareL m) = D.reqL l m
  | [], m => by cases m <;> rfl
  | x :: l, [] => rfl
  | x :: l, y :: m => by rw [D.bareL, D.reqL, D.reqL, D.req_bare2 x, D.reqL_bare2 l]
end
theorem D.req_alike {a b c d : D} (h1 : a.bare = b.bare) (h2 : c.bare = d.bare) : a.req c = b.req d := by
  rw [← D.req_bare a, h1, D.req_bare, ← D.req_bare2 b c, h2, D.req_bare2]

mutual
def E.bare : E → E
  | .mk k id code t body _ _ codes _ _ l => .mk k id code t body.bare none 0 codes none 0 (E.bareL l)
def E.bareL : List E → List E
  | [] => []
  | x :: l => x.bare :: E.bareL l
end
theorem E.bare_k (d : E) : d.bare.k = d.k := by cases d; rw [E.bare]; rfl
theorem E.bare_id (d : E) : d.bare.id = d.id := by cases d; rw [E.bare]; rfl
theorem E.bare_code (d : E) : d.bare.code = d.code := by cases d; rw [E.bare]; rfl
theorem E.bare_t (d : E) : d.bare.t = d.t := by cases d; rw [E.bare]; rfl
theorem E.bare_body (d : E) : d.bare.body = d.body.bare := by cases d; rw [E.bare]; rfl
theorem E.bare_codes (d : E) : d.bare.codes = d.codes := by cases d; rw [E.bare]; rfl
theorem E.bare_l (d : E) : d.bare.l = E.bareL d.l := by cases d; rw [E.bare]; rfl
theorem E.bareL_eq : ∀ l : List E, E.bareL l = l.map E.bare
  | [] => rfl
  | x :: l => by rw [E.bareL, E.bareL_eq l]; rfl
theorem E.bareL_len (l : List E) : (E.bareL l).length = l.length := by rw [E.bareL_eq, List.length_map]
mutual
theorem E.bare_size : ∀ d : E, d.bare.size = d.size
  | .mk k id code t body cA cc codes A c l => by rw [E.bare, E.size, E.size, E.bareL_size l]
theorem E.bareL_size : ∀ l : List E, E.sizeL (E.bareL l) = E.sizeL l
  | [] => rfl
  | x :: l => by rw [E.bareL, E.sizeL, E.sizeL, E.bare_size x, E.bareL_size l]
end
mutual
theorem E.bare_depth : ∀ d : E, d.bare.depth = d.depth
  | .mk k id code t body cA cc codes A c l => by rw [E.bare, E.depth, E.depth, E.bareL_depth l]
theorem E.bareL_depth : ∀ l : List E, E.depthL (E.bareL l) = E.depthL l
  | [] => rfl
  | x :: l => by rw [E.bareL, E.depthL, E.depthL, E.bare_depth x, E.bareL_depth l]
end
theorem E.eqr_bare (e t : E) : E.eqr D.req e.bare t = E.eqr D.req e t := by
  unfold E.eqr
  rw [E.bare_k, E.bare_id, E.bare_code, E.bare_t, E.bare_body, D.req_bare]
theorem E.eqr_bare2 (e t : E) : E.eqr D.req e t.bare = E.eqr D.req e t := by
  unfold E.eqr
  rw [E.bare_k, E.bare_id, E.bare_code, E.bare_t, E.bare_body, D.req_bare2]
theorem E.eqr_alike {a b c d : E} (h1 : a.bare = b.bare) (h2 : c.bare = d.bare) : E.eqr D.req a c = E.eqr D.req b d := by
  rw [← E.eqr_bare a, h1, E.eqr_bare, ← E.eqr_bare2 b c, h2, E.eqr_bare2]
end Go.Proofs.YtbhmeapnmpgggaaGreatDoor
/- Of which blocks the addresses of a tree are; trees made anew, row by row. No condition. -/
namespace Go.Proofs.YtbhmeapnmpgggaaGreatDoor
open Go.RowKit

mutual
/-- all addresses of the tree lie in such blocks -/
def D.All (P : Nat → Prop) : D → Prop
  | .mk _ _ _ _ A _ l => D.AllL P A l
def D.AllL (P : Nat → Prop) (A : Option Addr) : List D → Prop
  | [] => True
  | d :: l => (∀ ad, A = some ad → P ad.block) ∧ d.All P ∧ D.AllL P A l
end
mutual
theorem D.All.mono {P Q : Nat → Prop} (h : ∀ g, P g → Q g) : ∀ {d : D}, d.All P → d.All Q
  | .mk _ _ _ _ _ _ _, k => D.AllL.mono h k
theorem D.AllL.mono {P Q : Nat → Prop} (h : ∀ g, P g → Q g) {A : Option Addr} : ∀ {l : List D}, D.AllL P A l → D.AllL Q A l
  | [], _ => trivial
  | _ :: _, k => ⟨fun ad e => h _ (k.1 ad e), D.All.mono h k.2.1, D.AllL.mono h k.2.2⟩
end
mutual
theorem D.All.and {P Q : Nat → Prop} : ∀ {d : D}, d.All P → d.All Q → d.All (fun g => P g ∧ Q g)
  | .mk _ _ _ _ _ _ _, k, k' => D.AllL.and k k'
theorem D.AllL.and {P Q : Nat → Prop} {A : Option Addr} : ∀ {l : List D}, D.AllL P A l → D.AllL Q A l → D.AllL (fun g => P g ∧ Q g) A l
  | [], _, _ => trivial
  | _ :: _, k, k' => ⟨fun ad e => ⟨k.1 ad e, k'.1 ad e⟩, D.All.and k.2.1 k'.2.1, D.AllL.and k.2.2 k'.2.2⟩
end
mutual
theorem D.Lo.all {B : Nat} : ∀ {d : D}, d.Lo B → d.All (· < B)
  | .mk _ _ _ _ _ _ _, k => D.LoL.all k
theorem D.LoL.all {B : Nat} {A : Option Addr} : ∀ {l : List D}, D.LoL B A l → D.AllL (· < B) A l
  | [], _ => trivial
  | _ :: _, k => ⟨k.1, D.Lo.all k.2.1, D.LoL.all k.2.2⟩
end
theorem D.In.all {w : World} {d : D} (h : d.In w) : d.All (· < w.heap.size) := h.lo.all
theorem At.turn {w w' : World} {a : Addr} {xs : List Value} (h : At w a xs) (ht : w'.heap[a.block]? = w.heap[a.block]?) : At w' a xs := fun q u hu => by
  rw [World.cell?_of_block (w := w) (by rw [block_of_add]; exact ht)]
  exact h q u hu
mutual
theorem D.In.turn {P : Nat → Prop} {w w' : World} (ht : ∀ g, P g → w'.heap[g]? = w.heap[g]?) : ∀ {d : D}, d.In w → d.All P → d.In w'
  | .mk _ _ _ _ _ _ _, h, k => ⟨h.1, D.InL.turn ht h.2 k⟩
theorem D.InL.turn {P : Nat → Prop} {w w' : World} (ht : ∀ g, P g → w'.heap[g]? = w.heap[g]?) {A : Option Addr} : ∀ {j : Nat} {l : List D}, D.InL w A j l → D.AllL P A l → D.InL w' A j l
  | _, [], _, _ => trivial
  | _, _ :: _, h, k => ⟨let ⟨ad, e, hat⟩ := h.1; ⟨ad, e, hat.turn (by rw [block_of_add]; exact ht _ (k.1 ad e))⟩, D.In.turn ht h.2.1 k.2.1, D.InL.turn ht h.2.2 k.2.2⟩
end
theorem D.cs_len (d : D) : d.cs.length = 5 := rfl
theorem D.flat_len : ∀ es : List D, (es.flatMap D.cs).length = es.length * 5
  | [] => rfl
  | x :: l => by rw [List.flatMap_cons, List.length_append, D.flat_len l, D.cs_len, List.length_cons]; omega
theorem D.inL_of {w : World} {ad : Addr} : ∀ (es : List D) (j : Nat), (∀ e ∈ es, e.In w) → At w (ad.add (j * 5)) (es.flatMap D.cs) → D.InL w (some ad) j es
  | [], _, _, _ => trivial
  | x :: l, j, h, ha => by
    refine ⟨⟨ad, rfl, fun q u hu => ha q u ?_⟩, h x (by simp), D.inL_of l (j + 1) (fun e he => h e (by simp [he])) fun q u hu => ?_⟩
    · rw [List.flatMap_cons, List.getElem?_append_left (by have := (List.getElem?_eq_some_iff.1 hu).1; exact this)]
      exact hu
    · have := ha (5 + q) u (by
        rw [List.flatMap_cons, List.getElem?_append_right (by rw [D.cs_len]; omega), D.cs_len]
        rwa [Nat.add_sub_cancel_left])
      rw [add_of_add] at this ⊢
      rwa [show (j + 1) * 5 + q = j * 5 + (5 + q) from by omega]
theorem D.allL_of {P : Nat → Prop} {A : Option Addr} (hA : ∀ ad, A = some ad → P ad.block) : ∀ (es : List D), (∀ e ∈ es, e.All P) → D.AllL P A es
  | [], _ => trivial
  | x :: l, h => ⟨hA, h x (by simp), D.allL_of hA l fun e he => h e (by simp [he])⟩

/-- a slice of the call's own reads as these trees; these lie off its row -/
def D.Row (base : Nat) (w : World) (s : Value) (es : List D) : Prop :=
  w.ownsRow base 25 5 s es.length (es.flatMap D.cs) ∧ ∀ e ∈ es, e.In w ∧ e.All (fun g => base ≤ g ∧ s.ownBlock ≠ some g)
theorem D.Row.nil (base : Nat) (w : World) : D.Row base w (.slice none 0 0) [] := ⟨World.ownsRow_nil _ _ _ _, fun e he => by simp at he⟩
theorem own_turn {w w' : World} {B e size n : Nat} {v : Value} {xs : List Value} (h : w.ownsRow B e size v n xs) (hb : ∀ g, v.ownBlock = some g → w'.heap[g]? = w.heap[g]?) : w'.ownsRow B e size v n xs := by
  refine ⟨h.1, ?_⟩
  rcases h.2 with h2 | ⟨g, cap, cur, rfl, h3, h4, h5⟩
  · exact .inl h2
  · exact .inr ⟨g, cap, cur, rfl, h3, (hb g rfl).trans h4, h5⟩
/-- what the row holds stays while its blocks stay -/
theorem D.Row.turn {base : Nat} {w w' : World} {s : Value} {es : List D} (h : D.Row base w s es) (hb : ∀ g, base ≤ g → g < w.heap.size → w'.heap[g]? = w.heap[g]?) : D.Row base w' s es := by
  refine ⟨own_turn h.1 fun g hg => hb g (h.1.lt g hg).1 (h.1.lt g hg).2, fun e he => ⟨?_, (h.2 e he).2⟩⟩
  refine (h.2 e he).1.turn (P := fun g => base ≤ g ∧ g < w.heap.size) (fun g hg => hb g hg.1 hg.2) ?_
  exact ((h.2 e he).2.mono fun g hg => hg.1).and (h.2 e he).1.all
theorem D.Row.below {base : Nat} {w w' : World} {s : Value} {es : List D} (h : D.Row base w s es) (hb : Below w.heap.size w w') : D.Row base w' s es :=
  h.turn fun g _ hg => hb.block g hg
/-- the row as a list of a tree -/
theorem D.Row.list {base : Nat} {w : World} {s : Value} {es : List D} (h : D.Row base w s es) :
    ∃ A c, s = .slice A es.length c ∧ D.InL w A 0 es ∧ es.length ≤ c ∧ c ≤ 9223372036854775807 ∧ D.AllL (base ≤ ·) A es := by
  have hal : ∀ e ∈ es, e.All (base ≤ ·) := fun e he => (h.2 e he).2.mono fun g hg => hg.1
  rcases h.1.2 with ⟨rfl, hx⟩ | ⟨g, cap, cur, rfl, h3, h4, h5, h6, h7, h8⟩
  · have : es = [] := by
      have h0 := D.flat_len es
      rw [hx] at h0
      have h1 : es.length = 0 := by simp at h0; first | exact h0 | (rw [h0]; rfl) | omega
      exact List.eq_nil_of_length_eq_zero h1
    subst this
    exact ⟨none, 0, rfl, trivial, by simp, by simp, trivial⟩
  · refine ⟨some ⟨g, 0, none⟩, cap, rfl, D.inL_of es 0 (fun e he => (h.2 e he).1) ?_, h5, by simpa [maxLen] using h6, D.allL_of (fun ad e => by injection e with e; subst e; exact h3) es hal⟩
    have := h.1.cells (g := g) rfl
    rw [Nat.zero_mul]
    exact this
/-- a round: a tree made behind all that was there is appended -/
theorem D.Row.snoc {base : Nat} {w w1 w2 : World} {s s' : Value} {es : List D} {e : D} (h : D.Row base w s es) (hz : base ≤ w.heap.size) (hb : Below w.heap.size w w1) (hin : e.In w1) (hal : e.All (w.heap.size ≤ ·))
    (hown : w2.ownsRow base 25 5 s' (es.length + 1) (es.flatMap D.cs ++ e.cs)) (hg : w1.grownBy w2 s.ownBlock) (hat : s'.ownBlock = s.ownBlock ∨ s'.ownBlock = some w1.heap.size) : D.Row base w2 s' (es ++ [e]) := by
  have hs : ∀ g, s.ownBlock = some g → g < w.heap.size := fun g hg => (h.1.lt g hg).2
  refine ⟨by simpa [List.flatMap_append] using hown, fun x hx => ?_⟩
  have key : ∀ x : D, x.In w1 → x.All (fun g => base ≤ g ∧ s.ownBlock ≠ some g) → x.In w2 ∧ x.All (fun g => base ≤ g ∧ s'.ownBlock ≠ some g) := fun x hi ha => by
    have hlt := hi.all
    refine ⟨hi.turn (P := fun g => (base ≤ g ∧ s.ownBlock ≠ some g) ∧ g < w1.heap.size) (fun g hg' => hg.block g hg'.2 (Ne.symm hg'.1.2)) (ha.and hlt), ?_⟩
    refine (ha.and hlt).mono fun g hg' => ⟨hg'.1.1, ?_⟩
    rcases hat with h | h
    · rw [h]; exact hg'.1.2
    · rw [h]; intro e; injection e with e; omega
  rcases List.mem_append.1 hx with hx | hx
  · exact key x ((h.below hb).2 x hx).1 (h.2 x hx).2
  · have : x = e := by simpa using hx
    subst this
    refine key x hin (hal.mono fun g hg' => ⟨by omega, fun e => ?_⟩)
    have := hs g e
    omega

/-! of errors -/
mutual
def E.All (P : Nat → Prop) : E → Prop
  | .mk _ _ _ _ body cA _ codes A _ l => body.All P ∧ (codes ≠ [] → ∀ ad, cA = some ad → P ad.block) ∧ E.AllL P A l
def E.AllL (P : Nat → Prop) (A : Option Addr) : List E → Prop
  | [] => True
  | d :: l => (∀ ad, A = some ad → P ad.block) ∧ d.All P ∧ E.AllL P A l
end
mutual
theorem E.All.mono {P Q : Nat → Prop} (h : ∀ g, P g → Q g) : ∀ {d : E}, d.All P → d.All Q
  | .mk _ _ _ _ _ _ _ _ _ _ _, k => ⟨k.1.mono h, fun hn ad e => h _ (k.2.1 hn ad e), E.AllL.mono h k.2.2⟩
theorem E.AllL.mono {P Q : Nat → Prop} (h : ∀ g, P g → Q g) {A : Option Addr} : ∀ {l : List E}, E.AllL P A l → E.AllL Q A l
  | [], _ => trivial
  | _ :: _, k => ⟨fun ad e => h _ (k.1 ad e), E.All.mono h k.2.1, E.AllL.mono h k.2.2⟩
end
mutual
theorem E.All.and {P Q : Nat → Prop} : ∀ {d : E}, d.All P → d.All Q → d.All (fun g => P g ∧ Q g)
  | .mk _ _ _ _ _ _ _ _ _ _ _, k, k' => ⟨k.1.and k'.1, fun hn ad e => ⟨k.2.1 hn ad e, k'.2.1 hn ad e⟩, E.AllL.and k.2.2 k'.2.2⟩
theorem E.AllL.and {P Q : Nat → Prop} {A : Option Addr} : ∀ {l : List E}, E.AllL P A l → E.AllL Q A l → E.AllL (fun g => P g ∧ Q g) A l
  | [], _, _ => trivial
  | _ :: _, k, k' => ⟨fun ad e => ⟨k.1 ad e, k'.1 ad e⟩, E.All.and k.2.1 k'.2.1, E.AllL.and k.2.2 k'.2.2⟩
end
mutual
theorem E.Lo.all {B : Nat} : ∀ {d : E}, d.Lo B → d.All (· < B)
  | .mk _ _ _ _ _ _ _ _ _ _ _, k => ⟨k.1.all, k.2.1, E.LoL.all k.2.2⟩
theorem E.LoL.all {B : Nat} {A : Option Addr} : ∀ {l : List E}, E.LoL B A l → E.AllL (· < B) A l
  | [], _ => trivial
  | _ :: _, k => ⟨k.1, E.Lo.all k.2.1, E.LoL.all k.2.2⟩
end
theorem E.In.all {w : World} {d : E} (h : d.In w) : d.All (· < w.heap.size) := h.lo.all
theorem CodesIn.turn {w w' : World} {A : Option Addr} {l : List Int} (h : CodesIn w A l) (ht : l ≠ [] → ∀ ad, A = some ad → w'.heap[ad.block]? = w.heap[ad.block]?) : CodesIn w' A l := fun q x hq => by
  obtain ⟨ad, e, hc⟩ := h q x hq
  refine ⟨ad, e, ?_⟩
  rw [World.cell?_of_block (w := w) (by rw [block_of_add]; exact ht (by rintro rfl; simp at hq) ad e)]
  exact hc
mutual
theorem E.In.turn {P : Nat → Prop} {w w' : World} (ht : ∀ g, P g → w'.heap[g]? = w.heap[g]?) : ∀ {d : E}, d.In w → d.All P → d.In w'
  | .mk _ _ _ _ _ _ _ _ _ _ _, h, k => ⟨h.1, h.2.1.turn ht k.1, h.2.2.1.turn (fun hn ad e => ht _ (k.2.1 hn ad e)), E.InL.turn ht h.2.2.2 k.2.2⟩
theorem E.InL.turn {P : Nat → Prop} {w w' : World} (ht : ∀ g, P g → w'.heap[g]? = w.heap[g]?) {A : Option Addr} : ∀ {j : Nat} {l : List E}, E.InL w A j l → E.AllL P A l → E.InL w' A j l
  | _, [], _, _ => trivial
  | _, _ :: _, h, k => ⟨let ⟨ad, e, hat⟩ := h.1; ⟨ad, e, hat.turn (by rw [block_of_add]; exact ht _ (k.1 ad e))⟩, E.In.turn ht h.2.1 k.2.1, E.InL.turn ht h.2.2 k.2.2⟩
end
theorem E.cs_len (d : E) : d.cs.length = 11 := rfl
theorem E.flat_len : ∀ es : List E, (es.flatMap E.cs).length = es.length * 11
  | [] => rfl
  | x :: l => by rw [List.flatMap_cons, List.length_append, E.flat_len l, E.cs_len, List.length_cons]; omega
theorem E.inL_of {w : World} {ad : Addr} : ∀ (es : List E) (j : Nat), (∀ e ∈ es, e.In w) → At w (ad.add (j * 11)) (es.flatMap E.cs) → E.InL w (some ad) j es
  | [], _, _, _ => trivial
  | x :: l, j, h, ha => by
    refine ⟨⟨ad, rfl, fun q u hu => ha q u ?_⟩, h x (by simp), E.inL_of l (j + 1) (fun e he => h e (by simp [he])) fun q u hu => ?_⟩
    · rw [List.flatMap_cons, List.getElem?_append_left (by have := (List.getElem?_eq_some_iff.1 hu).1; exact this)]
      exact hu
    · have := ha (11 + q) u (by
        rw [List.flatMap_cons, List.getElem?_append_right (by rw [E.cs_len]; omega), E.cs_len]
        rwa [Nat.add_sub_cancel_left])
      rw [add_of_add] at this ⊢
      rwa [show (j + 1) * 11 + q = j * 11 + (11 + q) from by omega]
theorem E.allL_of {P : Nat → Prop} {A : Option Addr} (hA : ∀ ad, A = some ad → P ad.block) : ∀ (es : List E), (∀ e ∈ es, e.All P) → E.AllL P A es
  | [], _ => trivial
  | x :: l, h => ⟨hA, h x (by simp), E.allL_of hA l fun e he => h e (by simp [he])⟩
def E.Row (base : Nat) (w : World) (s : Value) (es : List E) : Prop :=
  w.ownsRow base 29 11 s es.length (es.flatMap E.cs) ∧ ∀ e ∈ es, e.In w ∧ e.All (fun g => base ≤ g ∧ s.ownBlock ≠ some g)
theorem E.Row.nil (base : Nat) (w : World) : E.Row base w (.slice none 0 0) [] := ⟨World.ownsRow_nil _ _ _ _, fun e he => by simp at he⟩
theorem E.Row.turn {base : Nat} {w w' : World} {s : Value} {es : List E} (h : E.Row base w s es) (hb : ∀ g, base ≤ g → g < w.heap.size → w'.heap[g]? = w.heap[g]?) : E.Row base w' s es := by
  refine ⟨own_turn h.1 fun g hg => hb g (h.1.lt g hg).1 (h.1.lt g hg).2, fun e he => ⟨?_, (h.2 e he).2⟩⟩
  refine (h.2 e he).1.turn (P := fun g => base ≤ g ∧ g < w.heap.size) (fun g hg => hb g hg.1 hg.2) ?_
  exact ((h.2 e he).2.mono fun g hg => hg.1).and (h.2 e he).1.all
theorem E.Row.below {base : Nat} {w w' : World} {s : Value} {es : List E} (h : E.Row base w s es) (hb : Below w.heap.size w w') : E.Row base w' s es :=
  h.turn fun g _ hg => hb.block g hg
theorem E.Row.list {base : Nat} {w : World} {s : Value} {es : List E} (h : E.Row base w s es) :
    ∃ A c, s = .slice A es.length c ∧ E.InL w A 0 es ∧ es.length ≤ c ∧ c ≤ 9223372036854775807 ∧ E.AllL (base ≤ ·) A es := by
  have hal : ∀ e ∈ es, e.All (base ≤ ·) := fun e he => (h.2 e he).2.mono fun g hg => hg.1
  rcases h.1.2 with ⟨rfl, hx⟩ | ⟨g, cap, cur, rfl, h3, h4, h5, h6, h7, h8⟩
  · have : es = [] := by
      have h0 := E.flat_len es
      rw [hx] at h0
      have h1 : es.length = 0 := by simp at h0; first | exact h0 | (rw [h0]; rfl) | omega
      exact List.eq_nil_of_length_eq_zero h1
    subst this
    exact ⟨none, 0, rfl, trivial, by simp, by simp, trivial⟩
  · refine ⟨some ⟨g, 0, none⟩, cap, rfl, E.inL_of es 0 (fun e he => (h.2 e he).1) ?_, h5, by simpa [maxLen] using h6, E.allL_of (fun ad e => by injection e with e; subst e; exact h3) es hal⟩
    have := h.1.cells (g := g) rfl
    rw [Nat.zero_mul]
    exact this
theorem E.Row.snoc {base : Nat} {w w1 w2 : World} {s s' : Value} {es : List E} {e : E} (h : E.Row base w s es) (hz : base ≤ w.heap.size) (hb : Below w.heap.size w w1) (hin : e.In w1) (hal : e.All (w.heap.size ≤ ·))
    (hown : w2.ownsRow base 29 11 s' (es.length + 1) (es.flatMap E.cs ++ e.cs)) (hg : w1.grownBy w2 s.ownBlock) (hat : s'.ownBlock = s.ownBlock ∨ s'.ownBlock = some w1.heap.size) : E.Row base w2 s' (es ++ [e]) := by
  have hs : ∀ g, s.ownBlock = some g → g < w.heap.size := fun g hg => (h.1.lt g hg).2
  refine ⟨by simpa [List.flatMap_append] using hown, fun x hx => ?_⟩
  have key : ∀ x : E, x.In w1 → x.All (fun g => base ≤ g ∧ s.ownBlock ≠ some g) → x.In w2 ∧ x.All (fun g => base ≤ g ∧ s'.ownBlock ≠ some g) := fun x hi ha => by
    have hlt := hi.all
    refine ⟨hi.turn (P := fun g => (base ≤ g ∧ s.ownBlock ≠ some g) ∧ g < w1.heap.size) (fun g hg' => hg.block g hg'.2 (Ne.symm hg'.1.2)) (ha.and hlt), ?_⟩
    refine (ha.and hlt).mono fun g hg' => ⟨hg'.1.1, ?_⟩
    rcases hat with h | h
    · rw [h]; exact hg'.1.2
    · rw [h]; intro e; injection e with e; omega
  rcases List.mem_append.1 hx with hx | hx
  · exact key x ((h.below hb).2 x hx).1 (h.2 x hx).2
  · have : x = e := by simpa using hx
    subst this
    refine key x hin (hal.mono fun g hg' => ⟨by omega, fun e => ?_⟩)
    have := hs g e
    omega
end Go.Proofs.YtbhmeapnmpgggaaGreatDoor
/- Plain: what Unwrap comes to lies on the chain of the first parts, and Is finds it there. No program. -/
namespace Go.Proofs.YtbhmeapnmpgggaaGreatDoor

/-! what is the same has the same bare tree -/
mutual
theorem D.same_bare : ∀ (a b : D), a.same b = true → a.bare = b.bare
  | .mk k i b t A c l, .mk k' i' b' t' A' c' l', h => by
    rw [D.same] at h
    simp only [D.k_mk, D.i_mk, D.b_mk, D.t_mk, D.l_mk, Bool.and_eq_true, beq_iff_eq] at h
    obtain ⟨⟨⟨⟨rfl, rfl⟩, rfl⟩, h4⟩, h5⟩ := h
    have h4 := of_decide_eq_true h4
    subst h4
    rw [D.bare, D.bare, D.sameL_bare l l' h5]
theorem D.sameL_bare : ∀ (l m : List D), D.sameL l m = true → D.bareL l = D.bareL m
  | [], [], _ => rfl
  | [], _ :: _, h => by simp [D.sameL] at h
  | _ :: _, [], h => by simp [D.sameL] at h
  | x :: l, y :: m, h => by
    rw [D.sameL, Bool.and_eq_true] at h
    rw [D.bareL, D.bareL, D.same_bare x y h.1, D.sameL_bare l m h.2]
end
mutual
theorem D.same_of_bare : ∀ (a b : D), a.bare = b.bare → a.same b = true
  | .mk k i b t A c l, .mk k' i' b' t' A' c' l', h => by
    rw [D.bare, D.bare] at h
    injection h with h1 h2 h3 h4 _ _ h5
    subst h1 h2 h3 h4
    rw [D.same]
    simp [D.sameL_of_bare l l' h5]
theorem D.sameL_of_bare : ∀ (l m : List D), D.bareL l = D.bareL m → D.sameL l m = true
  | [], [], _ => rfl
  | [], _ :: _, h => by rw [D.bareL, D.bareL] at h; cases h
  | _ :: _, [], h => by rw [D.bareL, D.bareL] at h; cases h
  | x :: l, y :: m, h => by
    rw [D.bareL, D.bareL] at h
    injection h with h1 h2
    rw [D.sameL, D.same_of_bare x y h1, D.sameL_of_bare l m h2]
    rfl
end
mutual
theorem E.same_bare : ∀ (a b : E), a.same b = true → a.bare = b.bare
  | .mk k i cd t bd cA cc cs A c l, .mk k' i' cd' t' bd' cA' cc' cs' A' c' l', h => by
    rw [E.same] at h
    simp only [E.k_mk, E.id_mk, E.code_mk, E.t_mk, E.body_mk, E.codes_mk, E.l_mk, Bool.and_eq_true, beq_iff_eq] at h
    obtain ⟨⟨⟨⟨⟨⟨rfl, rfl⟩, rfl⟩, h4⟩, hb⟩, h5⟩, hl⟩ := h
    have h4 := of_decide_eq_true h4
    have h5' : cs = cs' := of_decide_eq_true h5
    subst h4 h5'
    rw [E.bare, E.bare, D.same_bare _ _ hb, E.sameL_bare l l' hl]
theorem E.sameL_bare : ∀ (l m : List E), E.sameL l m = true → E.bareL l = E.bareL m
  | [], [], _ => rfl
  | [], _ :: _, h => by simp [E.sameL] at h
  | _ :: _, [], h => by simp [E.sameL] at h
  | x :: l, y :: m, h => by
    rw [E.sameL, Bool.and_eq_true] at h
    rw [E.bareL, E.bareL, E.same_bare x y h.1, E.sameL_bare l m h.2]
end
mutual
theorem E.same_of_bare : ∀ (a b : E), a.bare = b.bare → a.same b = true
  | .mk k i cd t bd cA cc cs A c l, .mk k' i' cd' t' bd' cA' cc' cs' A' c' l', h => by
    rw [E.bare, E.bare] at h
    injection h with h1 h2 h3 h4 h5 _ _ h6 _ _ h7
    subst h1 h2 h3 h4 h6
    rw [E.same]
    simp [E.sameL_of_bare l l' h7, D.same_of_bare _ _ h5]
theorem E.sameL_of_bare : ∀ (l m : List E), E.bareL l = E.bareL m → E.sameL l m = true
  | [], [], _ => rfl
  | [], _ :: _, h => by rw [E.bareL, E.bareL] at h; cases h
  | _ :: _, [], h => by rw [E.bareL, E.bareL] at h; cases h
  | x :: l, y :: m, h => by
    rw [E.bareL, E.bareL] at h
    injection h with h1 h2
    rw [E.sameL, E.same_of_bare x y h1, E.sameL_of_bare l m h2]
    rfl
end
mutual
theorem D.bare_bare : ∀ d : D, d.bare.bare = d.bare
  | .mk k i b t A c l => by rw [D.bare, D.bare, D.bareL_bareL l]
theorem D.bareL_bareL : ∀ l : List D, D.bareL (D.bareL l) = D.bareL l
  | [] => rfl
  | x :: l => by rw [D.bareL, D.bareL, D.bare_bare x, D.bareL_bareL l]
end
theorem D.same_iff (a b : D) : a.same b = true ↔ a.bare = b.bare := ⟨D.same_bare a b, D.same_of_bare a b⟩
theorem E.same_iff (a b : E) : a.same b = true ↔ a.bare = b.bare := ⟨E.same_bare a b, E.same_of_bare a b⟩
theorem D.head_bare (d : D) : d.bare.head = d.head := by
  unfold D.head
  simp only [D.bare_k, D.bare_i, D.bare_b, D.bare_t, D.bare_l, D.bareL_len]
mutual
theorem D.right_bare : ∀ d : D, d.bare.right = d.right
  | .mk k i b t A c l => by
    have h := D.head_bare (.mk k i b t A c l)
    rw [D.bare] at h ⊢
    rw [D.right, D.right, h, D.rightL_bare l]
theorem D.rightL_bare : ∀ l : List D, D.rightL (D.bareL l) = D.rightL l
  | [] => rfl
  | x :: l => by rw [D.bareL, D.rightL, D.rightL, D.right_bare x, D.rightL_bare l]
end
theorem D.ok_bare (d : D) : d.bare.Ok ↔ d.Ok := by unfold D.Ok; rw [D.bare_depth, D.bare_size, D.right_bare]
theorem D.valid0_bare (d : D) : d.bare.valid0 = d.valid0 := by rw [Bool.eq_iff_iff, D.valid0_iff, D.valid0_iff, D.ok_bare]
theorem E.bodyOk_bare (e : E) : e.bare.bodyOk = e.bodyOk := by
  unfold E.bodyOk
  rw [E.bare_k, E.bare_body, D.valid0_bare]
  have : e.body.bare.same D.zero = e.body.same D.zero := by rw [Bool.eq_iff_iff, D.same_iff, D.same_iff, D.bare_bare]
  rw [this]
theorem E.head_bare (e : E) : e.bare.head = e.head := by
  unfold E.head
  simp only [E.bare_k, E.bare_id, E.bare_code, E.bare_t, E.bare_codes, E.bare_l, E.bareL_len]
mutual
theorem E.right_bare : ∀ d : E, d.bare.right = d.right
  | .mk k id code t body cA cc codes A c l => by
    have h := E.head_bare (.mk k id code t body cA cc codes A c l)
    have h2 := E.bodyOk_bare (.mk k id code t body cA cc codes A c l)
    rw [E.bare] at h h2 ⊢
    rw [E.right, E.right, E.fit, E.fit, h, h2, E.rightL_bare k l]
theorem E.rightL_bare (k : Int) : ∀ l : List E, E.rightL k (E.bareL l) = E.rightL k l
  | [] => rfl
  | x :: l => by rw [E.bareL, E.rightL, E.rightL, E.right_bare x, E.rightL_bare k l, E.bare_k]
end
theorem E.right_of {a b : E} (h : a.bare = b.bare) (hb : b.right = true) : a.right = true := by rw [← E.right_bare, h, E.right_bare]; exact hb
theorem E.size_of {a b : E} (h : a.bare = b.bare) : a.size = b.size := by rw [← E.bare_size, h, E.bare_size]
theorem E.depth_of {a b : E} (h : a.bare = b.bare) : a.depth = b.depth := by rw [← E.bare_depth, h, E.bare_depth]
theorem E.k_of {a b : E} (h : a.bare = b.bare) : a.k = b.k := by rw [← E.bare_k, h, E.bare_k]
theorem E.len_of {a b : E} (h : a.bare = b.bare) : a.l.length = b.l.length := by rw [← E.bareL_len, ← E.bare_l, h, E.bare_l, E.bareL_len]
theorem E.bareL_at : ∀ {l m : List E} (_ : E.bareL l = E.bareL m) {q : Nat} {x : E}, l[q]? = some x → ∃ y, m[q]? = some y ∧ x.bare = y.bare
  | [], _, _, q, x, h => by simp at h
  | _ :: _, [], e, q, x, h => by rw [E.bareL, E.bareL] at e; cases e
  | a :: l, b :: m, e, 0, x, h => by
    rw [E.bareL, E.bareL] at e
    injection e with e1 e2
    have : a = x := by simpa using h
    subst this
    exact ⟨b, rfl, e1⟩
  | a :: l, b :: m, e, q + 1, x, h => by
    rw [E.bareL, E.bareL] at e
    injection e with e1 e2
    exact E.bareL_at e2 (by simpa using h)
theorem E.list_of {a b : E} (h : a.bare = b.bare) : E.bareL a.l = E.bareL b.l := by rw [← E.bare_l, h, E.bare_l]

/-- made gives the same tree -/
theorem E.made_bare (e : E) (h : e.right = true) : e.made.bare = e.bare := by
  have hf := E.right_fit h
  unfold E.fit E.head at hf
  rw [Bool.and_eq_true, Bool.and_eq_true, Bool.and_eq_true] at hf
  obtain ⟨⟨⟨hk, hr⟩, hl⟩, hb⟩ := hf
  have hr := of_decide_eq_true hr
  have hl := of_decide_eq_true hl
  obtain ⟨_, r1, r2, r3, _, r4⟩ := hr
  obtain ⟨_, _, l2⟩ := hl
  have body0 : E.fBody e.k = false → e.body.bare = D.zero.bare := fun h => by
    unfold E.bodyOk at hb
    rw [h] at hb
    exact D.same_bare _ _ (by simpa using hb)
  have nolist : E.fMost e.k = 0 → e.l = [] := fun h => by
    rw [h] at l2
    exact List.eq_nil_of_length_eq_zero (by omega)
  have notext : E.fText e.k = false → e.t = ⟨#[]⟩ := fun h => by
    rw [h] at r3
    have : e.t.toList = [] := by simpa using r3
    exact toList_inj (by rw [this, ByteArray.toList_eq])
  have nocodes : E.fCodes e.k = false → e.codes = [] := fun h => by
    rw [h] at r4
    exact List.eq_nil_of_length_eq_zero (by simpa using r4)
  have noid : E.fId e.k = false → e.id = 0 := fun h => by rw [h] at r1; simpa using r1
  have nocode : E.fCode e.k = false → e.code = 0 := fun h => by rw [h] at r2; simpa using r2
  clear r1 r2 r3 r4 l2 hb hk h
  obtain ⟨k, id, code, t, body, cA, cc, codes, A, c, l⟩ := e
  simp only [E.k_mk, E.id_mk, E.code_mk, E.t_mk, E.body_mk, E.codes_mk, E.l_mk] at *
  have hm : (E.mk k id code t body cA cc codes A c l).made = (if k = 1 ∨ k = 10 then E.mk k 0 code t D.zero none 0 [] none 0 [] else if k = 6 then E.mk 6 0 0 ⟨#[]⟩ D.zero cA cc codes none 0 []
    else if k = 7 then E.mk 7 0 0 ⟨#[]⟩ D.zero none 0 [] none 0 [] else E.mk k id code t body cA cc codes A c l) := rfl
  rw [hm]
  by_cases h1 : k = 1 ∨ k = 10
  · rw [if_pos h1]
    rcases h1 with rfl | rfl <;> (
      have h1 := body0 rfl
      have h2 := nolist rfl
      have h3 := nocodes rfl
      have h4 := noid rfl
      subst h2 h3 h4
      rw [E.bare, E.bare, h1])
  · rw [if_neg h1]
    by_cases h6 : k = 6
    · subst h6
      have h1 := body0 rfl
      have h2 := nolist rfl
      have h3 := notext rfl
      have h4 := noid rfl
      have h5 := nocode rfl
      subst h2 h3 h4 h5
      rw [if_pos rfl, E.bare, E.bare, h1]
    · rw [if_neg h6]
      by_cases h7 : k = 7
      · subst h7
        have h1 := body0 rfl
        have h2 := nolist rfl
        have h3 := notext rfl
        have h4 := noid rfl
        have h5 := nocode rfl
        have h6 := nocodes rfl
        subst h2 h3 h4 h5 h6
        rw [if_pos rfl, E.bare, E.bare, h1]
      · rw [if_neg h7]

/-- what Unwrap gives: the first part, or nothing -/
def E.unw (e : E) : E := if e.k = 3 ∨ e.k = 8 then e.l.headD E.zero else E.zero
/-- y lies on the chain of first parts of e, n steps down -/
inductive E.Chain : E → Nat → E → Prop
  | here (e : E) : E.Chain e 0 e
  | down {e z y : E} {n : Nat} : e.l[0]? = some z → E.Chain z n y → E.Chain e (n + 1) y
theorem E.Chain.snoc {e y z : E} {n : Nat} (h : E.Chain e n y) (hz : y.l[0]? = some z) : E.Chain e (n + 1) z := by
  induction h with
  | here e => exact .down hz (.here z)
  | down h1 _ ih => exact .down h1 (ih hz)
theorem E.depthL_at {l : List E} {q : Nat} {x : E} (h : l[q]? = some x) : x.depth ≤ E.depthL l := by
  induction l generalizing q with
  | nil => simp at h
  | cons a l ih =>
    rw [E.depthL]
    cases q with
    | zero =>
      have : a = x := by simpa using h
      subst this
      omega
    | succ q => have := ih (q := q) (by simpa using h); omega
theorem E.depth_eq (e : E) : e.depth = 1 + E.depthL e.l := by cases e; rw [E.depth]; rfl
theorem E.Chain.depth {e y : E} {n : Nat} (h : E.Chain e n y) : n + y.depth ≤ e.depth := by
  induction h with
  | here e => omega
  | down h1 _ ih => rename_i e z y n _; rw [E.depth_eq e]; have := E.depthL_at h1; omega
theorem E.Chain.right {e y : E} {n : Nat} (h : E.Chain e n y) (hr : e.right = true) : y.right = true := by
  induction h with
  | here e => exact hr
  | down h1 _ ih => exact ih (E.rightL_at (E.right_list hr) h1).2
theorem E.Chain.size {e y : E} {n : Nat} (h : E.Chain e n y) : y.size ≤ e.size := by
  induction h with
  | here e => exact Nat.le_refl _
  | down h1 _ ih => rename_i e z y n _; rw [E.size_eq e]; have := E.sizeL_le h1; omega
theorem E.k_ne_of_list {e z : E} {q : Nat} (hr : e.right = true) (h : e.l[q]? = some z) : e.k ≠ 0 := fun h0 => by
  have hf := E.right_fit hr
  unfold E.fit E.head at hf
  rw [Bool.and_eq_true, Bool.and_eq_true, Bool.and_eq_true] at hf
  have hl := of_decide_eq_true hf.1.2
  have := (List.getElem?_eq_some_iff.1 h).1
  have h2 := hl.2.2
  rw [h0, show E.fMost 0 = 0 from rfl] at h2
  omega
theorem E.chain_ris (X : E) (hself : E.eqr D.req X X = (true, false)) {e y : E} {n : Nat} (h : E.Chain e n y) (hy : y.bare = X.bare) (hr : e.right = true) (h0 : X.k ≠ 0) :
    ((E.ris D.req X e).1 || (E.ris D.req X e).2) = true := by
  have h6 : X.k ≠ 6 := fun h => by
    unfold E.eqr at hself
    rw [h] at hself
    simp at hself
  induction h with
  | here e =>
    have hk : e.k ≠ 0 := by rw [E.k_of hy]; exact h0
    have he : E.eqr D.req e X = (true, false) := by rw [E.eqr_alike hy rfl, hself]
    rw [E.ris_eq, if_neg hk, he, if_pos ⟨h6, rfl⟩]
    rfl
  | @down e z y n h1 h2 ih =>
    have hk := E.k_ne_of_list hr h1
    have hz := ih hy (E.rightL_at (E.right_list hr) h1).2
    rw [E.ris_eq, if_neg hk]
    by_cases hq : X.k ≠ 6 ∧ ((E.eqr D.req e X).1 || (E.eqr D.req e X).2) = true
    · rw [if_pos hq]; exact hq.2
    · rw [if_neg hq]
      split
      · rfl
      · cases hl : e.l with
        | nil => rw [hl] at h1; simp at h1
        | cons a l =>
          rw [hl] at h1
          have : a = z := by simpa using h1
          subst this
          rw [E.risL, if_pos hz]
          exact hz
end Go.Proofs.YtbhmeapnmpgggaaGreatDoor
