/- What an argument that is read as data is: a tree that lies in the world. No condition. -/
import Derived.Test.YtbhmeapnmpgggaaGreatDoorProg
import Derived.Test.YtbhmeapnmpgggaaGreatDoorBaseE
import Derived.ProofKit
import Derived.Deep.Slices
import Derived.KernelRfl
namespace Go.Proofs.YtbhmeapnmpgggaaGreatDoor
open Go.RowKit Go.ChangeShapes Go.WideShapes Go.Deep

theorem list_of_fn {α : Type} {P : Nat → α → Prop} : ∀ (n : Nat), (∀ i, i < n → ∃ d, P i d) → ∃ l : List α, l.length = n ∧ ∀ i d, l[i]? = some d → P i d
  | 0, _ => ⟨[], rfl, fun i d h => by simp at h⟩
  | n + 1, h => by
    obtain ⟨l, hl, hp⟩ := list_of_fn n (fun i hi => h i (by omega))
    obtain ⟨d, hd⟩ := h n (by omega)
    refine ⟨l ++ [d], by simp [hl], fun i e he => ?_⟩
    rcases Nat.lt_or_ge i l.length with g | g
    · rw [List.getElem?_append_left g] at he; exact hp i e he
    · rw [List.getElem?_append_right g] at he
      have : i = l.length := by
        rcases Nat.lt_or_ge (i - l.length) 1 with k | k
        · omega
        · rw [List.getElem?_eq_none (by simpa using k)] at he; cases he
      subst this
      simp at he
      subst he
      rwa [hl]
theorem D.InL.mk_ {w : World} {A : Option Addr} : ∀ {l : List D} {j : Nat}, (∀ i d, l[i]? = some d → (∃ ad, A = some ad ∧ At w (ad.add ((j + i) * 5)) d.cs) ∧ d.In w) → D.InL w A j l
  | [], _, _ => trivial
  | x :: l, j, h => ⟨by simpa using (h 0 x rfl).1, (h 0 x rfl).2, D.InL.mk_ fun i d hd => by
      have := h (i + 1) d (by simpa using hd)
      rwa [show j + (i + 1) = j + 1 + i from by omega] at this⟩
theorem E.InL.mk_ {w : World} {A : Option Addr} : ∀ {l : List E} {j : Nat}, (∀ i d, l[i]? = some d → (∃ ad, A = some ad ∧ At w (ad.add ((j + i) * 11)) d.cs) ∧ d.In w) → E.InL w A j l
  | [], _, _ => trivial
  | x :: l, j, h => ⟨by simpa using (h 0 x rfl).1, (h 0 x rfl).2, E.InL.mk_ fun i d hd => by
      have := h (i + 1) d (by simpa using hd)
      rwa [show j + (i + 1) = j + 1 + i from by omega] at this⟩
theorem At.of_cells {w : World} {base : Nat} {a : Addr} {n : Nat} {cs : List Value} (h : w.cells? base a n = some cs) : At w a cs := by
  obtain ⟨_, hl, hc⟩ := World.cells?_some h
  intro q u hu
  have : q < n := by
    rcases Nat.lt_or_ge q cs.length with g | g
    · omega
    · rw [List.getElem?_eq_none g] at hu; cases hu
  exact (hc q this).trans hu
theorem wf_i64 {n : Int} (h : (Lit.int .i64 n).wf = true) : -9223372036854775808 ≤ n ∧ n ≤ 9223372036854775807 := by
  simpa [Lit.wf, IntKind.min, IntKind.max, IntKind.signed, IntKind.bits] using h
theorem wf_u64 {n : Int} (h : (Lit.int .u64 n).wf = true) : 0 ≤ n ∧ n ≤ 18446744073709551615 := by
  simpa [Lit.wf, IntKind.min, IntKind.max, IntKind.signed, IntKind.bits] using h

section
variable {H : Type} {enc : TypeId × Value → H} {w : World} {base : Nat} {spare : Nat → Bool} {held : Bool}
theorem cellsD : Tryz.prog.cellsOf 25 = 5 := by kernel_rfl
theorem cellsE : Tryz.prog.cellsOf 29 = 11 := by kernel_rfl
theorem cellsInt64 : Tryz.prog.cellsOf 2 = 1 := by kernel_rfl
theorem bytesInt64 : Tryz.prog.bytesOf 2 = 8 := by kernel_rfl
theorem cellsInt : Tryz.prog.cellsOf 3 = 1 := by kernel_rfl
theorem cellsU64 : Tryz.prog.cellsOf 22 = 1 := by kernel_rfl
theorem cellsString : Tryz.prog.cellsOf 9 = 1 := by kernel_rfl
theorem cellsSlD : Tryz.prog.cellsOf 23 = 1 := by kernel_rfl
theorem cellsSlI : Tryz.prog.cellsOf 26 = 1 := by kernel_rfl
theorem cellsSlE : Tryz.prog.cellsOf 27 = 1 := by kernel_rfl

theorem list5 {α : Type} {l : List α} (h : l.length = 5) : ∃ a b c d e, l = [a, b, c, d, e] := by
  match l, h with
  | [a, b, c, d, e], _ => exact ⟨a, b, c, d, e, rfl⟩
theorem list11 {α : Type} {l : List α} (h : l.length = 11) : ∃ a b c d e f g i j k m, l = [a, b, c, d, e, f, g, i, j, k, m] := by
  match l, h with
  | [a, b, c, d, e, f, g, i, j, k, m], _ => exact ⟨a, b, c, d, e, f, g, i, j, k, m, rfl⟩

/-- a Datum that is read -/
theorem open_D : ∀ (fuel : Nat) (cs : List Value) (x : DataW H × List MemPlace), DataW.trod enc Tryz.prog w base spare held fuel 25 cs = some x → ∃ d : D, cs = d.cs ∧ d.In w := by
  intro fuel
  induction fuel using Nat.strongRecOn with
  | _ fuel ih =>
    intro cs x h
    obtain ⟨xs, n, rfl, hx, hlen, hxs, hf⟩ := DataW.trod_struct Tryz.underlying25 h
    rw [cellsD] at hlen
    obtain ⟨c0, c1, c2, c3, c4, rfl⟩ := list5 hlen
    obtain ⟨y0, y1, y2, y3, y4, rfl⟩ := list5 (hxs.trans (by rfl))
    have h0 := hf 0 _ rfl
    have h1 := hf 1 _ rfl
    have h2 := hf 2 _ rfl
    have h3 := hf 3 _ rfl
    have h4 := hf 4 _ rfl
    try simp [cellsInt] at h0
    try simp [cellsInt64] at h1
    try simp [cellsU64] at h2
    try simp [cellsString] at h3
    try simp [cellsSlD] at h4
    obtain ⟨k, e0, _, w0⟩ := DataW.trod_int Tryz.underlying3 h0
    obtain ⟨i, e1, _, w1⟩ := DataW.trod_int Tryz.underlying2 h1
    obtain ⟨b, e2, _, w2⟩ := DataW.trod_int Tryz.underlying22 h2
    obtain ⟨t, e3, _, w3⟩ := DataW.trod_string Tryz.underlying9 h3
    simp at e0 e1 e2 e3
    subst e0 e1 e2 e3
    unfold maxLen at w3
    rcases DataW.trod_slice Tryz.underlying23 h4 with ⟨e4, _⟩ | ⟨a, len, cap, elems, rest, m, hm, e4, _, hb, hl, hc, hlen, hel, _⟩
    · simp at e4
      subst e4
      exact ⟨.mk k i b t none 0 [], rfl, ⟨wf_i64 w0, wf_i64 w1, wf_u64 w2, w3, by simp, by simp⟩, trivial⟩
    · simp at e4
      subst e4
      unfold maxLen at hc
      have key : ∀ j, j < len → ∃ d : D, At w (a.add (j * 5)) d.cs ∧ d.In w := by
        intro j hj
        have := hel j hj
        rw [cellsD, List.getElem?_eq_getElem (by omega)] at this
        obtain ⟨cs', hc', ht⟩ := Option.bind_eq_some_iff.1 this
        obtain ⟨d, rfl, hd⟩ := ih m (by omega) _ _ ht
        exact ⟨d, At.of_cells hc', hd⟩
      obtain ⟨l, hll, hl'⟩ := list_of_fn len key
      subst hll
      exact ⟨.mk k i b t (some a) cap l, rfl, ⟨wf_i64 w0, wf_i64 w1, wf_u64 w2, w3, hl, hc⟩, D.InL.mk_ fun j d hd => ⟨⟨a, rfl, by rw [Nat.zero_add]; exact (hl' j d hd).1⟩, (hl' j d hd).2⟩⟩

/-- what is read is within the reach -/
def Sized (P : Program) (t : TypeId) (x : DataW H) : Prop := ∀ n, n ∈ DataW.weights P t x → n ≤ reachBytes
theorem sized_each {P : Program} : ∀ {ts : List TypeId} {ds : List (DataW H)} (_ : ∀ n, n ∈ DataW.weightsEach P ts ds → n ≤ reachBytes) {i : Nat} {t : TypeId} {d : DataW H}, ts[i]? = some t → ds[i]? = some d → Sized P t d
  | t :: ts, d :: ds, h, 0, t', d', h1, h2 => by
    simp at h1 h2
    subst h1 h2
    exact fun n hn => h n (by unfold DataW.weightsEach; exact List.mem_append_left _ hn)
  | t :: ts, d :: ds, h, i + 1, t', d', h1, h2 => sized_each (ts := ts) (ds := ds) (fun n hn => h n (by unfold DataW.weightsEach; exact List.mem_append_right _ hn)) (by simpa using h1) (by simpa using h2)
  | [], _, _, _, _, _, h1, _ => by simp at h1
  | _ :: _, [], _, _, _, _, _, h2 => by simp at h2
theorem sized_all {P : Program} {e : TypeId} : ∀ {ds : List (DataW H)} (_ : ∀ n, n ∈ DataW.weightsAll P e ds → n ≤ reachBytes) {i : Nat} {d : DataW H}, ds[i]? = some d → Sized P e d
  | d :: ds, h, 0, d', h2 => by
    simp at h2
    subst h2
    exact fun n hn => h n (by unfold DataW.weightsAll; exact List.mem_append_left _ hn)
  | d :: ds, h, i + 1, d', h2 => sized_all (ds := ds) (fun n hn => h n (by unfold DataW.weightsAll; exact List.mem_append_right _ hn)) (by simpa using h2)
  | [], _, _, _, h2 => by simp at h2

/-- an Err that is read -/
theorem open_E : ∀ (fuel : Nat) (cs : List Value) (x : DataW H × List MemPlace), DataW.trod enc Tryz.prog w base spare held fuel 29 cs = some x → Sized Tryz.prog 29 x.1 → ∃ d : E, cs = d.cs ∧ d.In w := by
  intro fuel
  induction fuel using Nat.strongRecOn with
  | _ fuel ih =>
    intro cs x h hsz
    obtain ⟨xs, n, rfl, hx, hlen, hxs, hf⟩ := DataW.trod_struct Tryz.underlying29 h
    rw [cellsE] at hlen
    have hxs' : xs.length = 7 := hxs.trans (by rfl)
    obtain ⟨c0, c1, c2, c3, c4, c5, c6, c7, c8, c9, c10, rfl⟩ := list11 hlen
    have h0 := hf 0 _ rfl
    have h1 := hf 1 _ rfl
    have h2 := hf 2 _ rfl
    have h3 := hf 3 _ rfl
    have h4 := hf 4 _ rfl
    have h5 := hf 5 _ rfl
    have h6 := hf 6 _ rfl
    obtain ⟨y0, g0⟩ : ∃ y, xs[0]? = some y := ⟨_, List.getElem?_eq_getElem (by omega)⟩
    obtain ⟨y1, g1⟩ : ∃ y, xs[1]? = some y := ⟨_, List.getElem?_eq_getElem (by omega)⟩
    obtain ⟨y2, g2⟩ : ∃ y, xs[2]? = some y := ⟨_, List.getElem?_eq_getElem (by omega)⟩
    obtain ⟨y3, g3⟩ : ∃ y, xs[3]? = some y := ⟨_, List.getElem?_eq_getElem (by omega)⟩
    obtain ⟨y4, g4⟩ : ∃ y, xs[4]? = some y := ⟨_, List.getElem?_eq_getElem (by omega)⟩
    obtain ⟨y5, g5⟩ : ∃ y, xs[5]? = some y := ⟨_, List.getElem?_eq_getElem (by omega)⟩
    obtain ⟨y6, g6⟩ : ∃ y, xs[6]? = some y := ⟨_, List.getElem?_eq_getElem (by omega)⟩
    rw [g0] at h0; rw [g1] at h1; rw [g2] at h2; rw [g3] at h3; rw [g4] at h4; rw [g5] at h5; rw [g6] at h6
    try simp [cellsInt] at h0
    try simp [cellsInt64] at h1
    try simp [cellsInt64] at h2
    try simp [cellsString] at h3
    try simp [cellsD] at h4
    try simp [cellsSlI] at h5
    try simp [cellsSlE] at h6
    have hse : ∀ n, n ∈ DataW.weightsEach Tryz.prog [3, 2, 2, 9, 25, 26, 27] (xs.map (·.1)) → n ≤ reachBytes := fun n hn => hsz n (by
      rw [hx]
      unfold DataW.weights
      rw [Tryz.underlying29]
      exact hn)
    have s5 := sized_each (i := 5) hse rfl (by rw [List.getElem?_map, g5]; rfl)
    have s6 := sized_each (i := 6) hse rfl (by rw [List.getElem?_map, g6]; rfl)
    obtain ⟨k, e0, _, w0⟩ := DataW.trod_int Tryz.underlying3 h0
    obtain ⟨i, e1, _, w1⟩ := DataW.trod_int Tryz.underlying2 h1
    obtain ⟨b, e2, _, w2⟩ := DataW.trod_int Tryz.underlying2 h2
    obtain ⟨t, e3, _, w3⟩ := DataW.trod_string Tryz.underlying9 h3
    obtain ⟨body, e4, hbody⟩ := open_D _ _ _ h4
    simp at e0 e1 e2 e3
    subst e0 e1 e2 e3
    simp [D.cs] at e4
    obtain ⟨rfl, rfl, rfl, rfl, rfl⟩ := e4
    unfold maxLen at w3
    have hcodes : ∃ (cA : Option Addr) (cc : Nat) (codes : List Int), c9 = .slice cA codes.length cc ∧ codes.length ≤ cc ∧ cc ≤ 9223372036854775807 ∧ codes.length ≤ 140737488355328 ∧ (∀ x, x ∈ codes → -9223372036854775808 ≤ x ∧ x ≤ 9223372036854775807) ∧ CodesIn w cA codes := by
      rcases DataW.trod_slice Tryz.underlying26 h5 with ⟨e5, _⟩ | ⟨a, len, cap, elems, rest, m, hm, e5, ex5, hb, hl, hc, hlen, hel, _⟩
      · simp at e5
        exact ⟨none, 0, [], e5, by simp, by simp, by simp, by simp, fun q x h => by simp at h⟩
      · simp at e5
        unfold maxLen at hc
        have key : ∀ j, j < len → ∃ x : Int, (-9223372036854775808 ≤ x ∧ x ≤ 9223372036854775807) ∧ w.cell? (a.add j) = some (.int .i64 x) := by
          intro j hj
          have := hel j hj
          rw [cellsInt64, List.getElem?_eq_getElem (by omega), Nat.mul_one] at this
          obtain ⟨cs', hc', ht⟩ := Option.bind_eq_some_iff.1 this
          obtain ⟨x, rfl, _, wx⟩ := DataW.trod_int Tryz.underlying2 ht
          exact ⟨x, wf_i64 wx, At.of_cells hc' 0 _ rfl⟩
        obtain ⟨l, hll, hl'⟩ := list_of_fn len key
        subst hll
        have hw : (elems.length + rest.length) * 8 ≤ reachBytes := s5 _ (by
          rw [ex5]
          unfold DataW.weights
          rw [Tryz.underlying26]
          simp only [List.length_map, bytesInt64]
          exact List.mem_cons_self ..)
        unfold reachBytes at hw
        refine ⟨some a, cap, l, e5, hl, hc, by omega, ?_, fun q x hq => ⟨a, rfl, (hl' q x hq).2⟩⟩
        intro x hx
        obtain ⟨q, hq⟩ := List.getElem?_of_mem hx
        exact (hl' q x hq).1
    obtain ⟨cA, cc, codes, rfl, q1, q2, q3, q4, q5⟩ := hcodes
    rcases DataW.trod_slice Tryz.underlying27 h6 with ⟨e6, _⟩ | ⟨a, len, cap, elems, rest, m, hm, e6, ex6, hb, hl, hc, hlen, hel, _⟩
    · simp at e6
      subst e6
      exact ⟨.mk k i b t body cA cc codes none 0 [], rfl, ⟨wf_i64 w0, wf_i64 w1, wf_i64 w2, w3, q1, q2, q3, by simp, by simp, q4⟩, hbody, q5, trivial⟩
    · simp at e6
      subst e6
      unfold maxLen at hc
      have hsa : ∀ n, n ∈ DataW.weightsAll Tryz.prog 29 (elems.map (·.1)) → n ≤ reachBytes := fun n hn => s6 n (by
        rw [ex6]
        unfold DataW.weights
        rw [Tryz.underlying27]
        exact List.mem_cons_of_mem _ (List.mem_append_left _ hn))
      have key : ∀ j, j < len → ∃ d : E, At w (a.add (j * 11)) d.cs ∧ d.In w := by
        intro j hj
        have := hel j hj
        rw [cellsE, List.getElem?_eq_getElem (by omega)] at this
        obtain ⟨cs', hc', ht⟩ := Option.bind_eq_some_iff.1 this
        obtain ⟨d, rfl, hd⟩ := ih m (by omega) _ _ ht (sized_all (i := j) hsa (by rw [List.getElem?_map, List.getElem?_eq_getElem (by omega)]; rfl))
        exact ⟨d, At.of_cells hc', hd⟩
      obtain ⟨l, hll, hl'⟩ := list_of_fn len key
      subst hll
      exact ⟨.mk k i b t body cA cc codes (some a) cap l, rfl, ⟨wf_i64 w0, wf_i64 w1, wf_i64 w2, w3, q1, q2, q3, hl, hc, q4⟩, hbody, q5, E.InL.mk_ fun j d hd => ⟨⟨a, rfl, by rw [Nat.zero_add]; exact (hl' j d hd).1⟩, (hl' j d hd).2⟩⟩
end
end Go.Proofs.YtbhmeapnmpgggaaGreatDoor
