/- errs.Text of an error that wraps a plain one, and conduitlaw35.plain: the walks. Condition: the tree lies in the world. -/
import Derived.Test.YtbhmeapnmpgggaaGreatDoorIs4
namespace Go.Proofs.YtbhmeapnmpgggaaGreatDoor
open Go.RowKit

def E.plainT (c : Int) (t : ByteArray) : E := .mk 1 0 c t D.zero none 0 [] none 0 []
theorem E.plainT_in (c : Int) (t : ByteArray) (w : World) (hc : -9223372036854775808 ≤ c ∧ c ≤ 9223372036854775807) (ht : t.size ≤ 9223372036854775807) : (E.plainT c t).In w := by
  refine ⟨⟨by simp, by simp, hc, ht, by simp, by simp, by simp, by simp, by simp, fun x h => by simp at h⟩, D.zero_in w, fun q x h => by simp at h, trivial⟩

set_option maxHeartbeats 1000000 in
set_option maxRecDepth 100000 in
theorem plainL_any (c : Int) (w : World) : Calls Tryz.prog 38 #[.int .i64 c] w (Ret (E.plainT c ⟨#[112]⟩).v w) := by
  go_enter Tryz.func38, Tryz.ntmps38
  go_wp2_with fail
  refine bodyPost_ret (v := (E.plainT c ⟨#[112]⟩).v) ?_ rfl ⟨rfl, ?_⟩
  · simp [results, Tryz.results38, go_sem]
    rfl
  · exact (Below.refl _ _).alloc (Nat.le_refl _) _

set_option maxHeartbeats 1000000 in
set_option maxRecDepth 100000 in
theorem plainErr_any (c : Int) (t : ByteArray) (w : World) : Calls Tryz.prog 203 #[.agg #[.int .i64 c, .string t]] w (Ret (.string t) w) := by
  go_enter Tryz.func203, Tryz.ntmps203
  go_wp2_with fail
  go_ret
  exact ⟨rfl, (Below.refl _ _).alloc (Nat.le_refl _) _⟩
theorem methodErr1 (x : Value) : ∀ w, (method 450 106 x "Error").run Tryz.prog w = .ok (203, x) w := fun _ => by kernel_rfl
theorem methodErr3 (g : Nat) : ∀ w, (method 450 107 (.pointer (some ⟨g, 0, none⟩)) "Error").run Tryz.prog w = .ok (205, .pointer (some ⟨g, 0, none⟩)) w := fun _ => by kernel_rfl

set_option maxHeartbeats 1000000 in
set_option maxRecDepth 100000 in
theorem behindP_any (s : ByteArray) (c : Int) (t : ByteArray) (w : World) (hs : s.size ≤ 65535) (ht : t.size ≤ 65535) : Calls Tryz.prog 208 #[.string s, .iface 106 (.agg #[.int .i64 c, .string t])] w (Ret (.string (s ++ ⟨#[58, 32]⟩ ++ t)) w) := by
  have tm := methodErr1 (.agg #[.int .i64 c, .string t])
  have h1 := Lib.hid (fun w => plainErr_any c t w)
  have hz : (⟨#[58, 32]⟩ : ByteArray).size = 2 := rfl
  have hz2 : (s ++ ⟨#[58, 32]⟩ : ByteArray).size = s.size + 2 := by rw [ByteArray.size_append]; rfl
  go_enter Tryz.func208, Tryz.ntmps208
  go_wp2_with fail
  refine (h1.out _).mono ?_
  rintro en w1 ⟨rfl, hb⟩
  have Hb := Lib.hid hb
  clear hb tm h1
  go_wp2_with fail
  go_ret
  exact ⟨rfl, Hb.out⟩

theorem EV.plain {B : Nat} {w : World} {e : E} {v : Value} (hv : EV B w e v) (h : e.k = 1) : v = .iface 106 (.agg #[.int .i64 e.code, .string e.t]) := by
  unfold EV E.okK at hv
  rcases hv with ⟨a, rfl⟩ | ⟨a, _⟩ | ⟨a, _⟩ | ⟨a, _⟩ | ⟨a, _⟩ | ⟨a, _⟩ | ⟨a, _⟩ | ⟨a, _⟩ | ⟨a, _⟩ | ⟨a, rfl⟩ | ⟨a, _⟩
  case inl => rfl
  all_goals (exfalso; omega)

set_option maxHeartbeats 2000000 in
set_option maxRecDepth 100000 in
theorem wrapErrP_any (e x : E) (g : Nat) (w : World) (hg : Blk w g 124 e.cs.toArray) (he : e.In w) (hx : e.l[0]? = some x) (h1 : x.k = 1) (hs : e.t.size ≤ 65535) (ht : x.t.size ≤ 65535) :
    Calls Tryz.prog 205 #[.pointer (some ⟨g, 0, none⟩)] w (Ret (.string (e.t ++ ⟨#[58, 32]⟩ ++ x.t)) w) := by
  have hU : ∀ w', Below w.heap.size w w' → Calls Tryz.prog 206 #[.pointer (some ⟨g, 0, none⟩)] w' (Ret (.iface 106 (.agg #[.int .i64 x.code, .string x.t])) w') := fun w' hb =>
    (unwrapW_any e x g w' (hg.to hb) (he.below hb) hx).mono fun en w2 ⟨v, h, hev, hb2⟩ => ⟨by rw [h, hev.plain h1], hb2⟩
  have hB := Lib.hid (fun w => behindP_any e.t x.code x.t w hs ht)
  have hc : ∀ w', Below w.heap.size w w' → w'.cell? ⟨g, 3, none⟩ = some (.string e.t) := fun w' hb => ((hg.to hb).cell 3)
  have HU := Lib.hid hU
  have HC := Lib.hid hc
  have hd := Lib.hid (Below.refl w.heap.size w).drew
  have hc0 := hc _ hd.out
  clear hg he hx hs ht hU hc
  generalize e.t = s, x.code = c, x.t = t at *
  go_enter Tryz.func205, Tryz.ntmps205
  go_upto_region 1 with fail
  go_region_held2 (fun w' => w'.cell? ⟨g, 3, none⟩ = some (.string s))
    (first
      | go_keep
      | exact HC.out _ hb2.out
      | exact HC.out _ hb1.out)
    (first
      | (go_at_call 208
         refine (hB.out _).mono ?_
         rintro en w2 ⟨rfl, hb2'⟩
         have hb2 := Lib.hid (hb1.out.trans (hb2'.mono hb1.out.size))
         clear hb2')
      | (refine (HU.out _ hd.out).mono ?_
         rintro en w1 ⟨rfl, hb1'⟩
         have hb1 := Lib.hid (hd.out.trans hb1')
         clear hb1'))
  all_goals
    go_wp2_with fail
    go_ret
    exact ⟨rfl, hb2.out⟩

theorem txt_idle (p q : Addr) (w : World) :
    CallsD Tryz.prog 70 #[.pointer (some p), .pointer (some q)] .returning w fun e u' w' => e = .returned (.tuple #[]) ∧ u' = .returning ∧ w' = w := by
  refine callsD_of_wpS Tryz.func70 rfl fun c₀ cs hu => ?_
  apply wpS_seq
  apply wpS_region
  simp [wpOpsS, go_sem, recoverD, hu, Tryz.ntmps70, Exit.thenS]
  refine wpS_cond (t := false) (by simp [Act.eval, Array.replicate]) ?_
  simp only [Bool.false_eq_true, if_false]
  refine wpS_of_wp (wp_skip ?_)
  cases c₀
  simp_all [bodyPostS, results, Tryz.results70]

set_option maxHeartbeats 2000000 in
set_option maxRecDepth 100000 in
theorem textW_any (e x : E) (w : World) (he : e.In w) (hk : e.k = 3) (hx : e.l[0]? = some x) (h1 : x.k = 1) (hs : e.t.size ≤ 65535) (ht : x.t.size ≤ 65535) :
    Calls Tryz.prog 30 #[e.v] w (Ret (.tuple #[.string (e.t ++ ⟨#[58, 32]⟩ ++ x.t), .int .i64 0]) w) := by
  have hmf : ∀ (fn : Fn) (first cap : Array Value) (w : World), (Instr.makeFunc fn first cap).run Tryz.prog w = .ok (.func fn first cap) w := fun _ _ _ _ => rfl
  have hv : ∀ w, Calls Tryz.prog 54 #[e.v] w fun en w' => ∃ g, en = .returned (.iface 107 (.pointer (some ⟨g, 0, none⟩))) ∧ Blk w' g 124 e.cs.toArray ∧ Below w.heap.size w w' := fun w =>
    (valueE_any e w).mono fun en w' ⟨v, h, hev, hb⟩ => by
      obtain ⟨g, _, rfl, h2⟩ := hev.wrap hk
      exact ⟨g, h, h2, hb⟩
  have hE := Lib.hid (fun g w hg he => wrapErrP_any e x g w hg he hx h1 hs ht)
  have HV := Lib.hid hv
  have He := Lib.hid he
  have hW : ∀ W, W = (((w.alloc (.cells e.cs.toArray 29)).alloc (.cells #[.string ⟨#[]⟩] 9)).alloc (.cells #[.int .i64 0] 32)) → Blk W w.heap.size 29 e.cs.toArray ∧ Blk W (w.heap.size + 1) 9 #[.string ⟨#[]⟩] ∧ Blk W (w.heap.size + 2) 32 #[.int .i64 0] ∧ Below w.heap.size w W := fun W h => by
    subst h
    exact ⟨((Blk.new _ _ _).alloc _).alloc _, (Blk.new' (by simp) _ _).alloc _, Blk.new' (by simp) _ _, (((Below.refl _ _).alloc (Nat.le_refl _) _).alloc (by simp) _).alloc (by simp <;> omega) _⟩
  have HW := Lib.hid hW
  have tm := methodErr3
  clear hW hv he hk hx h1 hs ht
  simp only [E.v, E.cs] at HW HV ⊢
  go_enter_defers Tryz.func30, Tryz.ntmps30
  go_wp2_with fail
  obtain ⟨-, b1, b2, b3⟩ := HW.out _ rfl
  clear HW
  generalize ((w.alloc _).alloc _).alloc _ = W at *
  refine (HV.out W).mono ?_
  rintro en w1 ⟨g, rfl, hg, hb⟩
  have hin := He.out.below (b3.trans (hb.mono b3.size))
  have hc := Lib.hid (hE.out g w1 hg hin)
  have b1 := b1.to hb
  have b2 := b2.to hb
  have b3 := b3.trans (hb.mono b3.size)
  have tm := tm g
  have H1 := Lib.hid (And.intro b1 (And.intro b2 b3))
  clear hin hg hb b1 b2 b3 HV hE
  generalize e.t ++ ⟨#[58, 32]⟩ ++ x.t = s at *
  go_wp2_with fail
  refine hc.out.mono ?_
  rintro en w2 ⟨rfl, hb⟩
  have b1' := H1.out.1.to hb
  have b2' := H1.out.2.1.to hb
  have b3 := H1.out.2.2
  have c1 := b1'.cell 0
  have c2 := b2'.cell 0
  have f1 := b1'.frozen 0
  have f2 := b2'.frozen 0
  simp at c1 c2
  have hr := Lib.hid (And.intro (((b3.trans (hb.mono b3.size)).setCell (p := ⟨w.heap.size + 1, 0, none⟩) (by simp) (.string s)).setCell (p := ⟨w.heap.size + 2, 0, none⟩) (by simp) (.int .i64 0)) (And.intro ((b1'.set_ 0 (.string s)).far (p := ⟨w.heap.size + 2, 0, none⟩) (by simp) (.int .i64 0)) ((b2'.far (p := ⟨w.heap.size + 1, 0, none⟩) (by simp) (.string s)).set_ 0 (.int .i64 0))))
  clear b1' b2' b3 hb tm hc H1
  go_wp2_with fail
  have d1 := hr.out.2.1.cell 0
  have d2 := hr.out.2.2.cell 0
  have hb := hr.out.1
  simp only [List.set_toArray, Array.setIfInBounds] at d1 d2
  generalize (w2.setCell _ _).setCell _ _ = W2 at *
  refine leaves_cons (f := 70) (args := #[.pointer (some ⟨w.heap.size + 1, 0, none⟩), .pointer (some ⟨w.heap.size + 2, 0, none⟩)]) (by simp) (by simp [go_sem]) ?_
  refine (txt_idle ⟨w.heap.size + 1, 0, none⟩ ⟨w.heap.size + 2, 0, none⟩ _).mono ?_
  rintro e u' w'' ⟨rfl, rfl, rfl⟩
  clear hr
  simp at d1 d2
  simp [Leaves, settle, results, Tryz.results30, go_sem, d1, d2]
  exact ⟨rfl, hb⟩
end Go.Proofs.YtbhmeapnmpgggaaGreatDoor
