/- slices.Clone of codes: the walk. Conditions: the codes lie in the world; they are not many. -/
import Derived.Test.YtbhmeapnmpgggaaGreatDoorAppJ
import Derived.Lib.SliceRun
import Derived.Test.YtbhmeapnmpgggaaGreatDoorChain
import Derived.Deep.MidRow
namespace Go.Proofs.YtbhmeapnmpgggaaGreatDoor
open Go.RowKit

/-- codes alike, in new memory -/
def NewCodes (l : List Int) (w : World) (e : Ending) (w' : World) : Prop := ∃ A' c', e = .returned (.slice A' l.length c') ∧ CodesIn w' A' l ∧ (l ≠ [] → ∀ ad, A' = some ad → w.heap.size ≤ ad.block) ∧ l.length ≤ c' ∧ c' ≤ 9223372036854775807 ∧ Below w.heap.size w w'
theorem infoI : (Tryz.prog.info? 2).map (fun i => (i.zero, i.size, i.bytes)) = some (some (.int .i64 0), 1, 8) := by kernel_rfl
/-- an own row of numbers as codes -/
theorem own_codes {w : World} {B n : Nat} {v : Value} {l : List Int} (h : w.ownsRow B 2 1 v n (l.map (Value.int .i64))) : ∃ A c, v = .slice A l.length c ∧ CodesIn w A l ∧ (∀ ad, A = some ad → B ≤ ad.block) ∧ l.length ≤ c ∧ c ≤ 9223372036854775807 := by
  have hn : l.length = n := by have := h.1; simpa using this
  rcases h.2 with ⟨rfl, hx⟩ | ⟨g, cap, cur, rfl, h3, h4, h5, h6, h7, h8⟩
  · have : l = [] := by
      first | (simp at hx; exact List.eq_nil_of_length_eq_zero (by omega)) | exact List.eq_nil_of_length_eq_zero (by omega)
    subst this
    exact ⟨none, 0, rfl, (fun q x hq => by simp at hq), (fun ad e => by cases e), by simp, by simp⟩
  · refine ⟨some ⟨g, 0, none⟩, cap, by rw [hn], fun q x hq => ⟨⟨g, 0, none⟩, rfl, ?_⟩, fun ad e => by injection e with e; subst e; exact h3, by omega, by simpa [maxLen] using h6⟩
    exact h.cells (g := g) rfl q _ (by rw [List.getElem?_map, hq]; rfl)

set_option maxHeartbeats 1000000 in
set_option maxRecDepth 100000 in
theorem codesClone_any (l : List Int) (A : Option Addr) (c : Nat) (w : World) (hl : CodesIn w A l) (hlen : l.length ≤ 1000000) :
    Calls Tryz.prog 98 #[.slice A l.length c] w (NewCodes l w) := by
  have q26 : ∀ (w : World) (a : Option Addr) (n c n' c' : Nat), (binOp .eql 26 (.slice a n c) (.slice none n' c')).run Tryz.prog w = .ok (.bool a.isNone) w := fun w a n c n' c' => Lib.run_eql_slice_nil w _ _ a n c n' c' Tryz.underlying26
  cases A with
  | none =>
    have : l = [] := by
      cases l with
      | nil => rfl
      | cons x l => obtain ⟨ad, e, _⟩ := hl 0 x rfl; cases e
    subst this
    have HP := Lib.hid (show NewCodes [] w (.returned (.slice none 0 0)) w from ⟨none, 0, rfl, (fun q x hq => by simp at hq), (fun _ ad e => by cases e), by simp, by simp, Below.refl _ _⟩)
    generalize NewCodes [] w = R at *
    go_enter Tryz.func98, Tryz.ntmps98
    go_wp2_with fail
    exact HP
  | some ad =>
    obtain ⟨i0, hi, hz0, hz1, hz2⟩ := info_parts infoI
    have hal := (Below.refl w.heap.size w).alloc (Nat.le_refl _) (.cells #[] 2)
    have hown : (w.alloc (.cells #[] 2)).ownsRow w.heap.size 2 1 (.slice (some ⟨w.heap.size, 0, none⟩) 0 0) 0 [] := ⟨rfl, .inr ⟨w.heap.size, 0, #[], rfl, Nat.le_refl _, Blk.new _ _ _, by simp, by simp, rfl, rfl⟩⟩
    have HO := Lib.hid hown
    have hnw : ∀ j u, (l.map (Value.int .i64))[j]? = some u → (w.alloc (.cells #[] 2)).cell? (ad.add j) = some u := fun j u hu => by
      rw [List.getElem?_map] at hu
      obtain ⟨x, hx, rfl⟩ := Option.map_eq_some_iff.1 hu
      obtain ⟨ad', e, hc⟩ := (hl.below hal) j x hx
      injection e with e
      subst e
      exact hc
    have HNW := Lib.hid hnw
    have HA := Lib.hid hal
    have HP : Hid (∀ v w', w'.ownsRow w.heap.size 2 1 v l.length (l.map (Value.int .i64)) → (w.alloc (.cells #[] 2)).grownBy w' (some w.heap.size) → NewCodes l w (.returned v) w') := Lib.hid fun v w' h1 h2 => by
      obtain ⟨A', c', rfl, k1, k2, k3, k4⟩ := own_codes h1
      refine ⟨A', c', rfl, k1, fun _ => k2, k3, k4, hal.grown h2 (by simp) (fun k hk => by injection hk with hk; omega)⟩
    clear hnw hal hown hl
    generalize NewCodes l w = R at *
    go_enter Tryz.func98, Tryz.ntmps98
    go_wp2_with (at_builtin; refine wpList_append_own_at _ rfl _ _ 26 rfl w.heap.size 2 i0 (.int .i64 0) 1 8 Tryz.underlying26 hi hz0 hz1 hz2 rfl (by decide) _ _ _ rfl HO.out ad l.length c (l.map (Value.int .i64)) rfl (by simp) HNW.out ?c2 ?c3 ?c4 ?c5 ?_)
    case c2 => intro u hu; simp at hu; obtain ⟨a, _, rfl⟩ := hu; rfl
    case c3 => unfold maxLen; omega
    case c4 => omega
    case c5 => simp
    intro v' w' hown' hgrow _ _
    have HF := Lib.hid (HP.out v' w' hown' hgrow)
    clear hown' hgrow HP HO HNW HA
    go_wp2_with fail
    exact HF
end Go.Proofs.YtbhmeapnmpgggaaGreatDoor
/- datum's tree copied: errs.cloned: the walk. Conditions: the tree lies in the world and is not great. -/
namespace Go.Proofs.YtbhmeapnmpgggaaGreatDoor
open Go.RowKit

/-- what holds at the head of a copying loop's rounds -/
structure D.Cl (w : World) (pre : Array Value) (l : List D) (j : Nat) (s : Value) (es : List D) (wr : World) : Prop where
  below : Below w.heap.size w wr
  big : w.heap.size + 2 ≤ wr.heap.size
  row : D.Row (w.heap.size + 2) wr s es
  bare : D.bareL es = D.bareL (l.take j)
  b0 : Blk wr w.heap.size 25 (pre.push s)
  b1 : Blk wr (w.heap.size + 1) 25 #[.int .i64 0, .int .i64 0, .int .u64 0, .string ⟨#[]⟩, .slice none 0 0]

theorem D.sizeL_len : ∀ l : List D, l.length ≤ D.sizeL l
  | [] => Nat.le_refl _
  | x :: l => by have := D.sizeL_len l; have := x.size_eq; rw [D.sizeL, List.length_cons]; omega
theorem D.bareL_append (l m : List D) : D.bareL (l ++ m) = D.bareL l ++ D.bareL m := by rw [D.bareL_eq, D.bareL_eq, D.bareL_eq, List.map_append]
theorem D.bareL_snoc {es l : List D} {j : Nat} {x x' : D} (h : D.bareL es = D.bareL (l.take j)) (hx : l[j]? = some x) (hb : x'.bare = x.bare) : D.bareL (es ++ [x']) = D.bareL (l.take (j + 1)) := by
  obtain ⟨hj, rfl⟩ := List.getElem?_eq_some_iff.1 hx
  rw [List.take_succ_eq_append_getElem hj, D.bareL_append, D.bareL_append, h]
  show _ ++ [x'.bare] = _ ++ [_]
  rw [hb]
theorem D.Cl.len {w : World} {pre : Array Value} {l : List D} {j : Nat} {s : Value} {es : List D} {wr : World} (h : D.Cl w pre l j s es wr) (hj : j ≤ l.length) : es.length = j := by
  rw [← D.bareL_len es, h.bare, D.bareL_len, List.length_take, Nat.min_eq_left hj]

set_option maxHeartbeats 1000000 in
set_option maxRecDepth 100000 in
theorem cloned_step (n : Nat) (d : D) (w : World) (hn : D.sizeL d.l ≤ n) (h20 : d.size ≤ 1000000) (hd : d.In w)
    (ih : ∀ (x : D) (w : World), x.size ≤ n → x.size ≤ 1000000 → x.In w → Calls Tryz.prog 97 #[x.v] w (D.New x w)) :
    Calls Tryz.prog 97 #[d.v] w (D.New d w) := by
  have hrg := hd.rng
  have hlen : d.l.length ≤ 1000000 := by
    have := D.sizeL_len d.l
    have := D.size_eq d
    omega
  have HE : Hid (∀ q x, d.l[q]? = some x → (∃ ad, d.A = some ad ∧ At w (ad.add (q * 5)) x.cs) ∧ (x.size ≤ n ∧ x.size ≤ 1000000 ∧ x.In w)) := Lib.hid fun q x h =>
    ⟨(hd.at_ h).1, Nat.le_trans (D.sizeL_le h) hn, Nat.le_trans (Nat.le_of_lt (D.size_lt h)) h20, (hd.at_ h).2⟩
  have HP : Hid (∀ (A' : Option Addr) (c' : Nat) (es : List D) (w' : World), (D.mk d.k d.i d.b d.t A' c' es).In w' → D.bareL es = D.bareL d.l → D.AllL (w.heap.size ≤ ·) A' es → Below w.heap.size w w' →
      D.New d w (.returned (.agg #[.int .i64 d.k, .int .i64 d.i, .int .u64 d.b, .string d.t, .slice A' es.length c'])) w') := Lib.hid fun A' c' es w' h1 h2 h3 h4 =>
    ⟨D.mk d.k d.i d.b d.t A' c' es, rfl, h1, by rw [D.bare, h2]; cases d; rw [D.bare]; rfl, h3, h4⟩
  obtain ⟨hr1, hr2, hr3, hr4, hr5, hr6⟩ := hrg
  have HG := Lib.hid (And.intro hr1 (And.intro hr2 (And.intro hr3 hr4)))
  clear hn hd h20 hr1 hr2 hr3 hr4
  generalize hR : D.New d w = R at HP ⊢
  clear hR
  simp only [D.v, D.cs]
  generalize d.k = f0, d.i = f1, d.b = f2, d.t = f3, d.A = A, d.c = c at *
  generalize d.l = l at *
  go_enter Tryz.func97, Tryz.ntmps97
  go_wp2_with fail
  go_loopg [11] l.length (fun gk i wr => ∃ (j : Nat) (s : Value) (es : List D), i = .int .i64 j ∧ j + gk = l.length ∧ Hid (D.Cl w #[.int .i64 f0, .int .i64 f1, .int .u64 f2, .string f3] l j s es wr))
  case atStart =>
    refine ⟨0, .slice none 0 0, [], rfl, by omega, ?_⟩
    exact ⟨((Below.refl _ _).alloc (Nat.le_refl _) _).alloc (by simp) _, by simp, D.Row.nil _ _, rfl, (Blk.new _ _ _).alloc _, Blk.new' (by simp) _ _⟩
  case round =>
    obtain ⟨j, s, es, rfl, hj, hC⟩ := hrel
    by_cases hlt : j < l.length
    · obtain ⟨x, ex⟩ : ∃ x, l[j]? = some x := ⟨_, List.getElem?_eq_getElem hlt⟩
      obtain ⟨⟨ad, rfl, h1⟩, hx⟩ := HE.out j x ex
      obtain ⟨p0, p1, p2, p3, p4⟩ := (h1.below hC.out.below).five
      have hW : ∀ W, W = wr.alloc (.cells x.cs.toArray 25) → Below wr.heap.size wr W ∧ Blk W wr.heap.size 25 x.cs.toArray := fun W h => by
        subst h
        exact ⟨(Below.refl _ _).alloc (Nat.le_refl _) _, Blk.new _ _ _⟩
      simp only [D.cs] at hW
      have HW := Lib.hid hW
      have HX := Lib.hid hx
      have Hex := Lib.hid ex
      clear hW hx h1 ex
      go_wp2_with fail
      obtain ⟨hb1, hx5⟩ := HW.out _ rfl
      clear HW p0 p1 p2 p3 p4
      generalize wr.alloc _ = W1 at *
      have hCr := hC.out
      have hbw : Below w.heap.size w W1 := hCr.below.trans (hb1.mono hCr.below.size)
      have HR := Lib.hid (hCr.row.below hb1)
      have hBz : w.heap.size + 2 ≤ W1.heap.size := Nat.le_trans hCr.big hb1.size
      have hlen2 : es.length ≤ 1000000 := by have := hCr.len (by omega); omega
      have HK := Lib.hid (hCr.b0.below hb1 hCr.b0.lt)
      have HK1 := Lib.hid (hCr.b1.below hb1 hCr.b1.lt)
      have Hbw := Lib.hid hbw
      have Hs := Lib.hid (fun W (h : Below W1.heap.size W1 W) => (HK.out.below h HK.out.lt).cell 4)
      have Hx := Lib.hid (fun W (h : Below W1.heap.size W1 W) => hx5.below h hx5.lt)
      have Hc := Lib.hid (fun W (h : Below W1.heap.size W1 W) => ih x W HX.out.1 HX.out.2.1 (HX.out.2.2.below (hbw.trans (h.mono hbw.size))))
      have Hbare := Lib.hid hCr.bare
      clear hCr hbw hb1 hx5 hC
      have uD := Tryz.underlying25
      have uS := Tryz.underlying23
      have sD : (Tryz.prog.info? 25).map (·.size) = some 5 := by kernel_rfl
      simp only [D.v, D.cs] at Hc Hx
      refine wp_region_eachC (by kernel_rfl) (by kernel_rfl) (fun done a w' => ∃ x15 x16 x17 x18 x19 x20 x21, a = ⟨#[Value.agg #[Value.int IntKind.i64 f0, Value.int IntKind.i64 f1, Value.int IntKind.u64 f2, Value.string f3, Value.slice (some ad) l.length c], Value.pointer (some ⟨w.heap.size, 0, none⟩), Value.pointer (some ⟨w.heap.size + 1, 0, none⟩), Value.slice (some ad) l.length c, undef, Value.pointer (some ⟨wr.heap.size, 0, none⟩), Value.pointer (some ⟨w.heap.size, 4, none⟩), Value.slice (some ad) l.length c, Value.pointer (some ⟨w.heap.size, 4, none⟩), Value.slice (some ad) l.length c, Value.int IntKind.i64 ↑l.length, Value.int IntKind.i64 ↑j, Value.bool true, Value.pointer (some (ad.add (j * 5))), Value.agg #[Value.int IntKind.i64 x.k, Value.int IntKind.i64 x.i, Value.int IntKind.u64 x.b, Value.string x.t, Value.slice x.A x.l.length x.c], x15, x16, x17, x18, x19, x20, x21, u22, undef], []⟩ ∧ AppJ W1 ⟨w.heap.size, 4, none⟩ (D.Got W1 x) (D.Boxed W1 x) (D.Put (w.heap.size + 2) W1 s es x) (done 3) (done 4) (done 5) (done 7) x18 x19 x20 w' ∧ (done 0 = true → x15 = Value.pointer (some ⟨w.heap.size, 4, none⟩)) ∧ (done 1 = true → x16 = s) ∧ (done 2 = true → x17 = Value.agg #[Value.int IntKind.i64 x.k, Value.int IntKind.i64 x.i, Value.int IntKind.u64 x.b, Value.string x.t, Value.slice x.A x.l.length x.c]) ∧ (done 6 = true → x21 = Value.pointer (some ⟨w.heap.size, 4, none⟩))) ?_ ?_ ?_
      · refine ⟨_, _, _, _, _, _, _, rfl, AppJ.start _ _ _ _ _ _ _ _, ?_⟩
        simp
      · refine ⟨?_, ?_, ?_, ?_, ?_, ?_, ?_, ?_, trivial⟩
        · rintro done a wx hd he ⟨x15, x16, x17, x18, x19, x20, x21, rfl, hB, i0, i1, i2, i6⟩ hcl K hK
          refine step_wp rfl (wp_value (Value.pointer (some ⟨w.heap.size, 4, none⟩)) (by kernel_rfl) ?_)
          exact hK _ _ ⟨_, x16, x17, x18, x19, x20, x21, rfl, hB, fun _ => rfl, i1, i2, i6⟩
        · rintro done a wx hd he ⟨x15, x16, x17, x18, x19, x20, x21, rfl, hB, i0, i1, i2, i6⟩ hcl K hK
          simp [Region.binds] at he
          obtain rfl := i0 (by simp [he])
          have hda := hcl.not (a := 5) (by kernel_rfl) (by omega) hd
          refine step_wp rfl (wp_load_cell 23 _ rfl ⟨w.heap.size, 4, none⟩ rfl _ _ (Hs.out wx (hB.first hda).2.1) uS rfl ?_)
          exact hK _ _ ⟨_, _, x17, x18, x19, x20, x21, rfl, hB, fun _ => rfl, fun _ => rfl, i2, i6⟩
        · rintro done a wx hd he ⟨x15, x16, x17, x18, x19, x20, x21, rfl, hB, i0, i1, i2, i6⟩ hcl K hK
          have hda := hcl.not (a := 5) (by kernel_rfl) (by omega) hd
          refine step_wp rfl (wp_load_row 25 _ rfl wr.heap.size rfl _ _ _ _ (Hx.out wx (hB.first hda).2.1) uD rfl sD ?_)
          exact hK _ _ ⟨x15, x16, _, x18, x19, x20, x21, rfl, hB, i0, i1, fun _ => rfl, i6⟩
        · rintro done a wx hd he ⟨x15, x16, x17, x18, x19, x20, x21, rfl, hB, i0, i1, i2, i6⟩ hcl K hK
          simp [Region.binds] at he
          obtain rfl := i2 (by simp [he])
          have hda := hcl.not (a := 5) (by kernel_rfl) (by omega) hd
          refine step_wp rfl (wp_call (f := 97) (args := #[Value.agg #[Value.int IntKind.i64 x.k, Value.int IntKind.i64 x.i, Value.int IntKind.u64 x.b, Value.string x.t, Value.slice x.A x.l.length x.c]]) (by kernel_rfl) (Hc.out wx (hB.first hda).2.1) ?_)
          intro en w1 hn
          obtain ⟨v, hv, hB⟩ := D.step_call hB hda hn
          exact ⟨v, hv, hK _ _ ⟨x15, x16, _, _, x19, x20, x21, rfl, hB, i0, i1, fun _ => rfl, i6⟩⟩
        · rintro done a wx hd he ⟨x15, x16, x17, x18, x19, x20, x21, rfl, hB, i0, i1, i2, i6⟩ hcl K hK
          simp [Region.binds] at he
          have hda := hcl.not (a := 5) (by kernel_rfl) (by omega) hd
          obtain ⟨u, w1, hr, hB⟩ := D.step_box hB hda (by simp [he])
          refine step_wp rfl (wp_box _ _ _ u rfl rfl hr ?_)
          exact hK _ _ ⟨x15, x16, x17, x18, _, x20, x21, rfl, hB, i0, i1, i2, i6⟩
        · rintro done a wx hd he ⟨x15, x16, x17, x18, x19, x20, x21, rfl, hB, i0, i1, i2, i6⟩ hcl K hK
          simp [Region.binds] at he
          obtain rfl := i1 (by simp [he])
          refine step_wp rfl (D.step_append hB hd (by simp [he]) hBz HR.out hlen2 (.tmp 16) (.tmp 19) rfl rfl rfl ?_)
          intro v' w1 hB
          exact hK _ _ ⟨x15, _, x17, x18, x19, _, x21, rfl, hB, i0, fun _ => rfl, i2, i6⟩
        · rintro done a wx hd he ⟨x15, x16, x17, x18, x19, x20, x21, rfl, hB, i0, i1, i2, i6⟩ hcl K hK
          refine step_wp rfl (wp_value (Value.pointer (some ⟨w.heap.size, 4, none⟩)) (by kernel_rfl) ?_)
          exact hK _ _ ⟨x15, x16, x17, x18, x19, x20, _, rfl, hB, i0, i1, i2, fun _ => rfl⟩
        · rintro done a wx hd he ⟨x15, x16, x17, x18, x19, x20, x21, rfl, hB, i0, i1, i2, i6⟩ hcl K hK
          simp [Region.binds] at he
          obtain rfl := i6 (by simp [he])
          refine step_wp rfl (D.step_store hB (by simp [he]) hd HR.out (by omega) HK.out (old := s) rfl (.tmp 21) (.tmp 20) rfl rfl rfl ?_)
          intro w1 hB
          exact hK _ _ ⟨x15, x16, x17, x18, x19, x20, _, rfl, hB, i0, i1, i2, fun _ => rfl⟩
      · rintro done a wx hd ⟨x15, x16, x17, x18, x19, x20, x21, rfl, hB, i0, i1, i2, i6⟩
        have dd : ∀ j, j < 8 → done j = true := fun j h => hd j (by simpa using h)
        have hE := hB.third (dd 7 (by omega))
        obtain rfl := i0 (dd 0 (by omega))
        obtain rfl := i1 (dd 1 (by omega))
        obtain rfl := i2 (dd 2 (by omega))
        obtain rfl := i6 (dd 6 (by omega))
        clear i0 i1 i2 i6 dd hB
        have hN := D.step_end hE HR.out (by omega) Hbw.out (Nat.le_refl _) hBz HK.out
        obtain ⟨x', k1, k2, k3, k4, k5, k6, _⟩ := hN
        have HN : Hid (D.Cl w #[.int .i64 f0, .int .i64 f1, .int .u64 f2, .string f3] l (j + 1) x20 (es ++ [x']) wx) :=
          ⟨k5, k6, k2, D.bareL_snoc Hbare.out Hex.out k1, by simpa using k3, k4 _ _ _ (by omega) (by omega) HK1.out⟩
        clear hE k1 k2 k3 k4 k5 k6 Hc Hx Hs HR HK HK1 Hbw Hbare hBz uD uS sD
        go_wp2_with fail
        go_roundg (gk - 1)
        case measure => omega
        case rel => exact ⟨j + 1, x20, es ++ [x'], by go_num, by omega, HN⟩
    · obtain rfl : j = l.length := by omega
      have hC2 := hC.out
      obtain ⟨A', c', rfl, r1, r2, r3, r4⟩ := hC2.row.list
      have hle := hC2.len (Nat.le_refl _)
      have HF := Lib.hid (HP.out A' c' es)
      have HI : Hid (∀ w', D.InL w' A' 0 es → (D.mk f0 f1 f2 f3 A' c' es).In w') := Lib.hid fun w' h => ⟨⟨HG.out.1, HG.out.2.1, HG.out.2.2.1, HG.out.2.2.2, r2, r3⟩, h⟩
      have HB := Lib.hid (show D.bareL es = D.bareL l by rw [hC2.bare, List.take_length])
      have HA := Lib.hid r4
      have HN : Hid (∀ w', (∀ k, w.heap.size + 2 ≤ k → k < wr.heap.size → w'.heap[k]? = wr.heap[k]?) → Below w.heap.size w w' → R (.returned (.agg #[.int .i64 f0, .int .i64 f1, .int .u64 f2, .string f3, .slice A' es.length c'])) w') := Lib.hid fun w' hk hb => by
        have hr := hC2.row.turn hk
        obtain ⟨A2, c2, e2, q1, q2, q3, q4⟩ := hr.list
        injection e2 with e2 _ e3
        subst e2 e3
        exact HF.out w' (HI.out w' q1) HB.out (D.AllL.mono (fun g h => by omega) HA.out) hb
      have c0 := hC2.b0.cell 0
      have c1 := hC2.b0.cell 1
      have c2 := hC2.b0.cell 2
      have c3 := hC2.b0.cell 3
      have c4 := hC2.b0.cell 4
      have d0 := hC2.b1.cell 0
      have d1 := hC2.b1.cell 1
      have d2 := hC2.b1.cell 2
      have d3 := hC2.b1.cell 3
      have d4 := hC2.b1.cell 4
      have e0 := hC2.b1.frozen 0
      have e1 := hC2.b1.frozen 1
      have e2 := hC2.b1.frozen 2
      have e3 := hC2.b1.frozen 3
      have e4 := hC2.b1.frozen 4
      simp at c0 c1 c2 c3 c4 d0 d1 d2 d3 d4
      have Hbel := Lib.hid hC2.below
      clear hC hC2 r1 r2 r3 r4 hle HF HI HB HA HE HP
      go_wp2_with fail
      refine bodyPost_ret (v := .agg #[.int .i64 f0, .int .i64 f1, .int .u64 f2, .string f3, .slice A' es.length c']) ?_ rfl (HN.out _ ?_ ?_)
      · simp [results, Tryz.results97, go_sem, d0, d1, d2, d3, d4]
      · intro k hk _
        rw [Below.heap_setCell _ _ _ _ (by show k ≠ w.heap.size + 1; omega), Below.heap_setCell _ _ _ _ (by show k ≠ w.heap.size + 1; omega), Below.heap_setCell _ _ _ _ (by show k ≠ w.heap.size + 1; omega), Below.heap_setCell _ _ _ _ (by show k ≠ w.heap.size + 1; omega), Below.heap_setCell _ _ _ _ (by show k ≠ w.heap.size + 1; omega)]
      · exact ((((Hbel.out.setCell (Nat.le_succ _) _).setCell (Nat.le_succ _) _).setCell (Nat.le_succ _) _).setCell (Nat.le_succ _) _).setCell (Nat.le_succ _) _

theorem cloned_any (n : Nat) : ∀ (d : D) (w : World), d.size ≤ n → d.size ≤ 1000000 → d.In w → Calls Tryz.prog 97 #[d.v] w (D.New d w) := by
  induction n with
  | zero => intro d w h; have := d.size_eq; omega
  | succ n ih => exact fun d w h1 h2 h3 => cloned_step n d w (by have := d.size_eq; omega) h2 h3 ih
end Go.Proofs.YtbhmeapnmpgggaaGreatDoor
/- errs.clone: what holds in the region that copies the body and the codes. No condition. -/
namespace Go.Proofs.YtbhmeapnmpgggaaGreatDoor
open Go.RowKit

def E.cells3 (e : E) (b : D) (A' : Option Addr) (c' : Nat) (d7 d9 d11 : Bool) : Array Value :=
  #[.int .i64 e.k, .int .i64 e.id, .int .i64 e.code, .string e.t, .int .i64 (if d7 then b else e.body).k, .int .i64 (if d7 then b else e.body).i, .int .u64 (if d7 then b else e.body).b, .string (if d7 then b else e.body).t,
    .slice (if d7 then b else e.body).A (if d7 then b else e.body).l.length (if d7 then b else e.body).c, if d9 then .slice A' e.codes.length c' else .slice e.cA e.codes.length e.cc, if d11 then .slice none 0 0 else .slice e.A e.l.length e.c]
/-- the stages: the body copied (2), the codes (5); stored: body (7), codes (9), no list (11) -/
def E.ClJ (W : World) (g : Nat) (e : E) (d2 d5 d7 d9 d11 : Bool) (x10 x13 : Value) (w : World) : Prop :=
  ∃ (b : D) (A' : Option Addr) (c' : Nat), Kept [g] W w ∧ (d2 = true → x10 = b.v ∧ b.In w ∧ b.bare = e.body.bare ∧ b.All (W.heap.size ≤ ·)) ∧
    (d5 = true → x13 = .slice A' e.codes.length c' ∧ CodesIn w A' e.codes ∧ (e.codes ≠ [] → ∀ ad, A' = some ad → W.heap.size ≤ ad.block) ∧ e.codes.length ≤ c' ∧ c' ≤ 9223372036854775807) ∧
    Blk w g 29 (e.cells3 b A' c' d7 d9 d11)
section
variable {W : World} {g : Nat} {e : E} {d2 d5 d7 d9 d11 : Bool} {x10 x13 : Value} {w w' : World}
theorem E.ClJ.start (h : Blk W g 29 e.cs.toArray) (x10 x13 : Value) : E.ClJ W g e false false false false false x10 x13 W.drew :=
  ⟨D.zero, none, 0, (Kept.refl _ _).drew, (fun h => by cases h), (fun h => by cases h), h.drew⟩
theorem E.ClJ.kept (h : E.ClJ W g e d2 d5 d7 d9 d11 x10 x13 w) : Kept [g] W w := h.choose_spec.choose_spec.choose_spec.1
theorem E.ClJ.body (h : E.ClJ W g e d2 d5 d7 d9 d11 x10 x13 w) (h7 : d7 = false) : At w ⟨g, 4, none⟩ e.body.cs := by
  obtain ⟨b, A', c', _, _, _, hb⟩ := h
  subst h7
  intro q u hu
  have hq : q < 5 := by have := (List.getElem?_eq_some_iff.1 hu).1; exact this
  have := hb.cell (4 + q)
  unfold Addr.add
  match q, hq with
  | 0, _ => simpa [E.cells3, D.cs] using this.trans hu
  | 1, _ => simpa [E.cells3, D.cs] using this.trans hu
  | 2, _ => simpa [E.cells3, D.cs] using this.trans hu
  | 3, _ => simpa [E.cells3, D.cs] using this.trans hu
  | 4, _ => simpa [E.cells3, D.cs] using this.trans hu
theorem E.ClJ.codes (h : E.ClJ W g e d2 d5 d7 d9 d11 x10 x13 w) (h9 : d9 = false) : w.cell? ⟨g, 9, none⟩ = some (.slice e.cA e.codes.length e.cc) := by
  obtain ⟨b, A', c', _, _, _, hb⟩ := h
  subst h9
  have := hb.cell 9
  simpa [E.cells3] using this
theorem E.ClJ.call (h : E.ClJ W g e d2 d5 d7 d9 d11 x10 x13 w) (h7 : d7 = false) {en : Ending} (hn : D.New e.body w en w') : ∃ v, en = .returned v ∧ E.ClJ W g e true d5 d7 d9 d11 v x13 w' := by
  obtain ⟨b, A', c', h1, h2, h3, h4⟩ := h
  obtain ⟨b', k1, k2, k3, k4, k5⟩ := hn
  subst h7
  refine ⟨_, k1, b', A', c', h1.trans (Kept.of_below k5 _), fun _ => ⟨rfl, k2, k3, k4.mono fun q hq => Nat.le_trans h1.size hq⟩, fun h => ?_, h4.below k5 h4.lt⟩
  obtain ⟨m1, m2, m3⟩ := h3 h
  exact ⟨m1, m2.below k5, m3⟩
theorem E.ClJ.call2 (h : E.ClJ W g e d2 d5 d7 d9 d11 x10 x13 w) (h9 : d9 = false) {en : Ending} (hn : NewCodes e.codes w en w') : ∃ v, en = .returned v ∧ E.ClJ W g e d2 true d7 d9 d11 x10 v w' := by
  obtain ⟨b, A', c', h1, h2, h3, h4⟩ := h
  obtain ⟨A2, c2, k1, k2, k3, k4, k5, k6⟩ := hn
  subst h9
  refine ⟨_, k1, b, A2, c2, h1.trans (Kept.of_below k6 _), fun h => ?_, fun _ => ⟨rfl, k2, fun hne ad ha => Nat.le_trans h1.size (k3 hne ad ha), k4, k5⟩, h4.below k6 h4.lt⟩
  obtain ⟨m1, m2, m3⟩ := h2 h
  exact ⟨m1, m2.below k6, m3⟩
/-- a store into the block leaves what is new -/
theorem cl_keepC {A' : Option Addr} {l : List Int} (hg : g < W.heap.size) (p : Addr) (hp : p.block = g) (u : Value) (h1 : CodesIn w A' l) (h2 : l ≠ [] → ∀ ad, A' = some ad → W.heap.size ≤ ad.block) : CodesIn (w.setCell p u) A' l :=
  h1.turn fun hn ad ha => Below.heap_setCell _ _ _ _ (by have := h2 hn ad ha; omega)
theorem E.ClJ.store7 (h : E.ClJ W g e d2 d5 d7 d9 d11 x10 x13 w) (hg : g < W.heap.size) (h2 : d2 = true) {o : Oper} {a : Act} {K : Act → World → Prop} {Q : Exit → Act → World → Prop}
    (p q : Operand) (ho : o.op = .store 25 p q) (hp : a.eval p = .pointer (some ⟨g, 4, none⟩)) (hq : a.eval q = x10)
    (hK : ∀ w', E.ClJ W g e d2 d5 true d9 d11 x10 x13 w' → K (a.put o.dst undef) w') : o.wp Tryz.prog a w K Q := by
  obtain ⟨b, A', c', k1, k2, k3, k4⟩ := h
  obtain ⟨rfl, m1, m2, m3⟩ := k2 h2
  have ht : w.there g 4 5 := fun j hj => by
    rw [k4.frozen]
    refine ⟨?_, rfl⟩
    rw [k4.cell, Array.getElem?_eq_getElem (show 4 + j < 11 by omega)]
    rfl
  refine wp_store_mid 25 p q ho g 4 b.cs.toArray hp hq ht (by kernel_rfl) (all_oneCell_toArray b.cs_one) (hK _ ?_)
  have hs : ∀ X : World, X.setCells g 4 b.cs.toArray.toList = ((((X.setCell ⟨g, 4, none⟩ (.int .i64 b.k)).setCell ⟨g, 5, none⟩ (.int .i64 b.i)).setCell ⟨g, 6, none⟩ (.int .u64 b.b)).setCell ⟨g, 7, none⟩ (.string b.t)).setCell ⟨g, 8, none⟩ (.slice b.A b.l.length b.c) := fun X => rfl
  rw [hs]
  refine ⟨b, A', c', ((((k1.setCell (.inl (by simp)) _).setCell (.inl (by simp)) _).setCell (.inl (by simp)) _).setCell (.inl (by simp)) _).setCell (.inl (by simp)) _, fun _ => ⟨rfl, ?_, m2, m3⟩, fun h => ?_, ?_⟩
  · exact m1.turn (P := (W.heap.size ≤ ·)) (fun k hk => by
      rw [Below.heap_setCell _ _ _ _ (by show k ≠ g; omega), Below.heap_setCell _ _ _ _ (by show k ≠ g; omega), Below.heap_setCell _ _ _ _ (by show k ≠ g; omega), Below.heap_setCell _ _ _ _ (by show k ≠ g; omega), Below.heap_setCell _ _ _ _ (by show k ≠ g; omega)]) m3
  · obtain ⟨n1, n2, n3, n4⟩ := k3 h
    exact ⟨n1, cl_keepC hg _ rfl _ (cl_keepC hg _ rfl _ (cl_keepC hg _ rfl _ (cl_keepC hg _ rfl _ (cl_keepC hg _ rfl _ n2 n3) n3) n3) n3) n3, n3, n4⟩
  · have := ((((k4.set_ 4 (.int .i64 b.k)).set_ 5 (.int .i64 b.i)).set_ 6 (.int .u64 b.b)).set_ 7 (.string b.t)).set_ 8 (.slice b.A b.l.length b.c)
    simpa [E.cells3] using this
theorem E.ClJ.store9 (h : E.ClJ W g e d2 d5 d7 d9 d11 x10 x13 w) (hg : g < W.heap.size) (h5 : d5 = true) {o : Oper} {a : Act} {K : Act → World → Prop} {Q : Exit → Act → World → Prop}
    (p q : Operand) (ho : o.op = .store 26 p q) (hp : a.eval p = .pointer (some ⟨g, 9, none⟩)) (hq : a.eval q = x13)
    (hK : ∀ w', E.ClJ W g e d2 d5 d7 true d11 x10 x13 w' → K (a.put o.dst undef) w') : o.wp Tryz.prog a w K Q := by
  obtain ⟨b, A', c', k1, k2, k3, k4⟩ := h
  obtain ⟨rfl, m1, m2, m3⟩ := k3 h5
  refine wp_store_cell 26 p q ho ⟨g, 9, none⟩ hp _ hq rfl rfl (by kernel_rfl) (if d9 then .slice A' e.codes.length c' else .slice e.cA e.codes.length e.cc) (by rw [k4.cell]; rfl) (k4.frozen 9) (hK _ ?_)
  refine ⟨b, A', c', k1.setCell (.inl (by simp)) _, fun h => ?_, fun _ => ⟨rfl, cl_keepC hg _ rfl _ m1 m2, m2, m3⟩, ?_⟩
  · obtain ⟨n1, n2, n3, n4⟩ := k2 h
    exact ⟨n1, n2.turn (P := (W.heap.size ≤ ·)) (fun k hk => Below.heap_setCell _ _ _ _ (by show k ≠ g; omega)) n4, n3, n4⟩
  · have := k4.set_ 9 (.slice A' e.codes.length c')
    simpa [E.cells3] using this
theorem E.ClJ.store11 (h : E.ClJ W g e d2 d5 d7 d9 d11 x10 x13 w) (hg : g < W.heap.size) {o : Oper} {a : Act} {K : Act → World → Prop} {Q : Exit → Act → World → Prop}
    (p q : Operand) (ho : o.op = .store 27 p q) (hp : a.eval p = .pointer (some ⟨g, 10, none⟩)) (hq : a.eval q = .slice none 0 0)
    (hK : ∀ w', E.ClJ W g e d2 d5 d7 d9 true x10 x13 w' → K (a.put o.dst undef) w') : o.wp Tryz.prog a w K Q := by
  obtain ⟨b, A', c', k1, k2, k3, k4⟩ := h
  refine wp_store_cell 27 p q ho ⟨g, 10, none⟩ hp _ hq rfl rfl (by kernel_rfl) (if d11 then .slice none 0 0 else .slice e.A e.l.length e.c) (by rw [k4.cell]; rfl) (k4.frozen 10) (hK _ ?_)
  refine ⟨b, A', c', k1.setCell (.inl (by simp)) _, fun h => ?_, fun h => ?_, ?_⟩
  · obtain ⟨n1, n2, n3, n4⟩ := k2 h
    exact ⟨n1, n2.turn (P := (W.heap.size ≤ ·)) (fun k hk => Below.heap_setCell _ _ _ _ (by show k ≠ g; omega)) n4, n3, n4⟩
  · obtain ⟨n1, n2, n3, n4⟩ := k3 h
    exact ⟨n1, cl_keepC hg _ rfl _ n2 n3, n3, n4⟩
  · have := k4.set_ 10 (.slice none 0 0)
    simpa [E.cells3] using this
end
end Go.Proofs.YtbhmeapnmpgggaaGreatDoor
