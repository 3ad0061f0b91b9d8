/- errs: made of each kind of error: the walks. No condition but that the value is the error's. -/
import Derived.Test.YtbhmeapnmpgggaaGreatDoorWalk
namespace Go.Proofs.YtbhmeapnmpgggaaGreatDoor
open Go.RowKit

/-- what made gives -/
def E.made (e : E) : E := if e.k = 1 ∨ e.k = 10 then .mk e.k 0 e.code e.t D.zero none 0 [] none 0 [] else if e.k = 6 then .mk 6 0 0 ⟨#[]⟩ D.zero e.cA e.cc e.codes none 0 []
  else if e.k = 7 then .mk 7 0 0 ⟨#[]⟩ D.zero none 0 [] none 0 [] else e
theorem E.made_in {w : World} {e : E} (h : e.In w) : e.made.In w := by
  obtain ⟨r1, r2, r3, r4, r5, r6, r7, r8, r9, r10⟩ := h.rng
  unfold E.made
  split
  · exact ⟨⟨r1, by simp, r3, r4, by simp, by simp, by simp, by simp, by simp, by simp⟩, D.zero_in w, fun q x hq => by simp at hq, trivial⟩
  · split
    · exact ⟨⟨by simp, by simp, by simp, by simp [ByteArray.size], r5, r6, r7, by simp, by simp, r10⟩, D.zero_in w, h.cod, trivial⟩
    · split
      · exact ⟨⟨by simp, by simp, by simp, by simp [ByteArray.size], by simp, by simp, by simp, by simp, by simp, by simp⟩, D.zero_in w, fun q x hq => by simp at hq, trivial⟩
      · exact h
def Ret (v : Value) (w : World) (e : Ending) (w' : World) : Prop := e = .returned v ∧ Below w.heap.size w w'

set_option maxHeartbeats 2000000 in
set_option maxRecDepth 100000 in
theorem made2_any (d : E) (g : Nat) (w : World) (hg : Blk w g 123 d.cs.toArray) : Calls Tryz.prog 201 #[.pointer (some ⟨g, 0, none⟩)] w (Ret d.v w) := by
  have e0 := fun o => (hg.alloc o).cell 0
  have e1 := fun o => (hg.alloc o).cell 1
  have e2 := fun o => (hg.alloc o).cell 2
  have e3 := fun o => (hg.alloc o).cell 3
  have e4 := fun o => (hg.alloc o).cell 4
  have e5 := fun o => (hg.alloc o).cell 5
  have e6 := fun o => (hg.alloc o).cell 6
  have e7 := fun o => (hg.alloc o).cell 7
  have e8 := fun o => (hg.alloc o).cell 8
  have e9 := fun o => (hg.alloc o).cell 9
  have e10 := fun o => (hg.alloc o).cell 10
  simp [E.cs] at e0 e1 e2 e3 e4 e5 e6 e7 e8 e9 e10
  simp only [E.v, E.cs]
  clear hg
  generalize d.k = f0, d.id = f1, d.code = f2, d.t = f3, d.body.k = f4, d.body.i = f5, d.body.b = f6, d.body.t = f7, d.body.A = f8, d.body.l.length = f9, d.body.c = f10, d.cA = f11, d.codes.length = f12, d.cc = f13, d.A = A, d.l.length = ll, d.c = c at *
  go_enter Tryz.func201, Tryz.ntmps201
  go_wp2_with fail
  all_goals
    refine bodyPost_ret (v := .agg #[Value.int .i64 f0, .int .i64 f1, .int .i64 f2, .string f3, .int .i64 f4, .int .i64 f5, .int .u64 f6, .string f7, .slice f8 f9 f10, .slice f11 f12 f13, .slice A ll c]) ?_ rfl ⟨rfl, ?_⟩
    · simp [results, Tryz.results201, go_sem]
    · exact (Below.refl _ _).alloc (Nat.le_refl _) _

set_option maxHeartbeats 2000000 in
set_option maxRecDepth 100000 in
theorem made3_any (d : E) (g : Nat) (w : World) (hg : Blk w g 124 d.cs.toArray) : Calls Tryz.prog 207 #[.pointer (some ⟨g, 0, none⟩)] w (Ret d.v w) := by
  have e0 := fun o => (hg.alloc o).cell 0
  have e1 := fun o => (hg.alloc o).cell 1
  have e2 := fun o => (hg.alloc o).cell 2
  have e3 := fun o => (hg.alloc o).cell 3
  have e4 := fun o => (hg.alloc o).cell 4
  have e5 := fun o => (hg.alloc o).cell 5
  have e6 := fun o => (hg.alloc o).cell 6
  have e7 := fun o => (hg.alloc o).cell 7
  have e8 := fun o => (hg.alloc o).cell 8
  have e9 := fun o => (hg.alloc o).cell 9
  have e10 := fun o => (hg.alloc o).cell 10
  simp [E.cs] at e0 e1 e2 e3 e4 e5 e6 e7 e8 e9 e10
  simp only [E.v, E.cs]
  clear hg
  generalize d.k = f0, d.id = f1, d.code = f2, d.t = f3, d.body.k = f4, d.body.i = f5, d.body.b = f6, d.body.t = f7, d.body.A = f8, d.body.l.length = f9, d.body.c = f10, d.cA = f11, d.codes.length = f12, d.cc = f13, d.A = A, d.l.length = ll, d.c = c at *
  go_enter Tryz.func207, Tryz.ntmps207
  go_wp2_with fail
  all_goals
    refine bodyPost_ret (v := .agg #[Value.int .i64 f0, .int .i64 f1, .int .i64 f2, .string f3, .int .i64 f4, .int .i64 f5, .int .u64 f6, .string f7, .slice f8 f9 f10, .slice f11 f12 f13, .slice A ll c]) ?_ rfl ⟨rfl, ?_⟩
    · simp [results, Tryz.results207, go_sem]
    · exact (Below.refl _ _).alloc (Nat.le_refl _) _

set_option maxHeartbeats 2000000 in
set_option maxRecDepth 100000 in
theorem made4_any (d : E) (g : Nat) (w : World) (hg : Blk w g 125 d.cs.toArray) : Calls Tryz.prog 211 #[.pointer (some ⟨g, 0, none⟩)] w (Ret d.v w) := by
  have e0 := fun o => (hg.alloc o).cell 0
  have e1 := fun o => (hg.alloc o).cell 1
  have e2 := fun o => (hg.alloc o).cell 2
  have e3 := fun o => (hg.alloc o).cell 3
  have e4 := fun o => (hg.alloc o).cell 4
  have e5 := fun o => (hg.alloc o).cell 5
  have e6 := fun o => (hg.alloc o).cell 6
  have e7 := fun o => (hg.alloc o).cell 7
  have e8 := fun o => (hg.alloc o).cell 8
  have e9 := fun o => (hg.alloc o).cell 9
  have e10 := fun o => (hg.alloc o).cell 10
  simp [E.cs] at e0 e1 e2 e3 e4 e5 e6 e7 e8 e9 e10
  simp only [E.v, E.cs]
  clear hg
  generalize d.k = f0, d.id = f1, d.code = f2, d.t = f3, d.body.k = f4, d.body.i = f5, d.body.b = f6, d.body.t = f7, d.body.A = f8, d.body.l.length = f9, d.body.c = f10, d.cA = f11, d.codes.length = f12, d.cc = f13, d.A = A, d.l.length = ll, d.c = c at *
  go_enter Tryz.func211, Tryz.ntmps211
  go_wp2_with fail
  all_goals
    refine bodyPost_ret (v := .agg #[Value.int .i64 f0, .int .i64 f1, .int .i64 f2, .string f3, .int .i64 f4, .int .i64 f5, .int .u64 f6, .string f7, .slice f8 f9 f10, .slice f11 f12 f13, .slice A ll c]) ?_ rfl ⟨rfl, ?_⟩
    · simp [results, Tryz.results211, go_sem]
    · exact (Below.refl _ _).alloc (Nat.le_refl _) _

set_option maxHeartbeats 2000000 in
set_option maxRecDepth 100000 in
theorem made8_any (d : E) (g : Nat) (w : World) (hg : Blk w g 126 d.cs.toArray) : Calls Tryz.prog 220 #[.pointer (some ⟨g, 0, none⟩)] w (Ret d.v w) := by
  have e0 := fun o => (hg.alloc o).cell 0
  have e1 := fun o => (hg.alloc o).cell 1
  have e2 := fun o => (hg.alloc o).cell 2
  have e3 := fun o => (hg.alloc o).cell 3
  have e4 := fun o => (hg.alloc o).cell 4
  have e5 := fun o => (hg.alloc o).cell 5
  have e6 := fun o => (hg.alloc o).cell 6
  have e7 := fun o => (hg.alloc o).cell 7
  have e8 := fun o => (hg.alloc o).cell 8
  have e9 := fun o => (hg.alloc o).cell 9
  have e10 := fun o => (hg.alloc o).cell 10
  simp [E.cs] at e0 e1 e2 e3 e4 e5 e6 e7 e8 e9 e10
  simp only [E.v, E.cs]
  clear hg
  generalize d.k = f0, d.id = f1, d.code = f2, d.t = f3, d.body.k = f4, d.body.i = f5, d.body.b = f6, d.body.t = f7, d.body.A = f8, d.body.l.length = f9, d.body.c = f10, d.cA = f11, d.codes.length = f12, d.cc = f13, d.A = A, d.l.length = ll, d.c = c at *
  go_enter Tryz.func220, Tryz.ntmps220
  go_wp2_with fail
  all_goals
    refine bodyPost_ret (v := .agg #[Value.int .i64 f0, .int .i64 f1, .int .i64 f2, .string f3, .int .i64 f4, .int .i64 f5, .int .u64 f6, .string f7, .slice f8 f9 f10, .slice f11 f12 f13, .slice A ll c]) ?_ rfl ⟨rfl, ?_⟩
    · simp [results, Tryz.results220, go_sem]
    · exact (Below.refl _ _).alloc (Nat.le_refl _) _

set_option maxHeartbeats 2000000 in
set_option maxRecDepth 100000 in
theorem made9_any (d : E) (g : Nat) (w : World) (hg : Blk w g 127 d.cs.toArray) : Calls Tryz.prog 225 #[.pointer (some ⟨g, 0, none⟩)] w (Ret d.v w) := by
  have e0 := fun o => (hg.alloc o).cell 0
  have e1 := fun o => (hg.alloc o).cell 1
  have e2 := fun o => (hg.alloc o).cell 2
  have e3 := fun o => (hg.alloc o).cell 3
  have e4 := fun o => (hg.alloc o).cell 4
  have e5 := fun o => (hg.alloc o).cell 5
  have e6 := fun o => (hg.alloc o).cell 6
  have e7 := fun o => (hg.alloc o).cell 7
  have e8 := fun o => (hg.alloc o).cell 8
  have e9 := fun o => (hg.alloc o).cell 9
  have e10 := fun o => (hg.alloc o).cell 10
  simp [E.cs] at e0 e1 e2 e3 e4 e5 e6 e7 e8 e9 e10
  simp only [E.v, E.cs]
  clear hg
  generalize d.k = f0, d.id = f1, d.code = f2, d.t = f3, d.body.k = f4, d.body.i = f5, d.body.b = f6, d.body.t = f7, d.body.A = f8, d.body.l.length = f9, d.body.c = f10, d.cA = f11, d.codes.length = f12, d.cc = f13, d.A = A, d.l.length = ll, d.c = c at *
  go_enter Tryz.func225, Tryz.ntmps225
  go_wp2_with fail
  all_goals
    refine bodyPost_ret (v := .agg #[Value.int .i64 f0, .int .i64 f1, .int .i64 f2, .string f3, .int .i64 f4, .int .i64 f5, .int .u64 f6, .string f7, .slice f8 f9 f10, .slice f11 f12 f13, .slice A ll c]) ?_ rfl ⟨rfl, ?_⟩
    · simp [results, Tryz.results225, go_sem]
    · exact (Below.refl _ _).alloc (Nat.le_refl _) _

set_option maxHeartbeats 2000000 in
set_option maxRecDepth 100000 in
theorem made1_any (f2 : Int) (f3 : ByteArray) (w : World) : Calls Tryz.prog 204 #[.agg #[.int .i64 f2, .string f3]] w (Ret (.agg #[.int .i64 1, .int .i64 0, .int .i64 f2, .string f3, .int .i64 0, .int .i64 0, .int .u64 0, .string ⟨#[]⟩, .slice none 0 0, .slice none 0 0, .slice none 0 0]) w) := by
  go_enter Tryz.func204, Tryz.ntmps204
  go_wp2_with fail
  all_goals
    refine bodyPost_ret (v := .agg #[.int .i64 1, .int .i64 0, .int .i64 f2, .string f3, .int .i64 0, .int .i64 0, .int .u64 0, .string ⟨#[]⟩, .slice none 0 0, .slice none 0 0, .slice none 0 0]) ?_ rfl ⟨rfl, ?_⟩
    · simp [results, Tryz.results204, go_sem]
    · exact ((Below.refl _ _).alloc (Nat.le_refl _) _).alloc (by simp) _

set_option maxHeartbeats 2000000 in
set_option maxRecDepth 100000 in
theorem made10_any (f2 : Int) (f3 : ByteArray) (w : World) : Calls Tryz.prog 229 #[.agg #[.int .i64 f2, .string f3]] w (Ret (.agg #[.int .i64 10, .int .i64 0, .int .i64 f2, .string f3, .int .i64 0, .int .i64 0, .int .u64 0, .string ⟨#[]⟩, .slice none 0 0, .slice none 0 0, .slice none 0 0]) w) := by
  go_enter Tryz.func229, Tryz.ntmps229
  go_wp2_with fail
  all_goals
    refine bodyPost_ret (v := .agg #[.int .i64 10, .int .i64 0, .int .i64 f2, .string f3, .int .i64 0, .int .i64 0, .int .u64 0, .string ⟨#[]⟩, .slice none 0 0, .slice none 0 0, .slice none 0 0]) ?_ rfl ⟨rfl, ?_⟩
    · simp [results, Tryz.results229, go_sem]
    · exact ((Below.refl _ _).alloc (Nat.le_refl _) _).alloc (by simp) _

set_option maxHeartbeats 2000000 in
set_option maxRecDepth 100000 in
theorem made6_any (A : Option Addr) (n c : Nat) (w : World) : Calls Tryz.prog 216 #[.slice A n c] w (Ret (.agg #[.int .i64 6, .int .i64 0, .int .i64 0, .string ⟨#[]⟩, .int .i64 0, .int .i64 0, .int .u64 0, .string ⟨#[]⟩, .slice none 0 0, .slice A n c, .slice none 0 0]) w) := by
  go_enter Tryz.func216, Tryz.ntmps216
  go_wp2_with fail
  all_goals
    refine bodyPost_ret (v := .agg #[.int .i64 6, .int .i64 0, .int .i64 0, .string ⟨#[]⟩, .int .i64 0, .int .i64 0, .int .u64 0, .string ⟨#[]⟩, .slice none 0 0, .slice A n c, .slice none 0 0]) ?_ rfl ⟨rfl, ?_⟩
    · simp [results, Tryz.results216, go_sem]
    · exact (Below.refl _ _).alloc (Nat.le_refl _) _

set_option maxHeartbeats 2000000 in
set_option maxRecDepth 100000 in
theorem made7_any  (w : World) : Calls Tryz.prog 201 #[.pointer none] w (Ret (.agg #[.int .i64 7, .int .i64 0, .int .i64 0, .string ⟨#[]⟩, .int .i64 0, .int .i64 0, .int .u64 0, .string ⟨#[]⟩, .slice none 0 0, .slice none 0 0, .slice none 0 0]) w) := by
  go_enter Tryz.func201, Tryz.ntmps201
  go_wp2_with fail
  all_goals
    refine bodyPost_ret (v := .agg #[.int .i64 7, .int .i64 0, .int .i64 0, .string ⟨#[]⟩, .int .i64 0, .int .i64 0, .int .u64 0, .string ⟨#[]⟩, .slice none 0 0, .slice none 0 0, .slice none 0 0]) ?_ rfl ⟨rfl, ?_⟩
    · simp [results, Tryz.results201, go_sem]
    · exact (Below.refl _ _).alloc (Nat.le_refl _) _

set_option maxHeartbeats 2000000 in
set_option maxRecDepth 100000 in
theorem made5_any (d : E) (g : Nat) (w : World) (hg : Blk w g 29 d.cs.toArray) : Calls Tryz.prog 214 #[.agg #[.pointer (some ⟨g, 0, none⟩)]] w (Ret d.v w) := by
  have e0 := fun o o' => ((hg.alloc o).alloc o').cell 0
  have e1 := fun o o' => ((hg.alloc o).alloc o').cell 1
  have e2 := fun o o' => ((hg.alloc o).alloc o').cell 2
  have e3 := fun o o' => ((hg.alloc o).alloc o').cell 3
  have e4 := fun o o' => ((hg.alloc o).alloc o').cell 4
  have e5 := fun o o' => ((hg.alloc o).alloc o').cell 5
  have e6 := fun o o' => ((hg.alloc o).alloc o').cell 6
  have e7 := fun o o' => ((hg.alloc o).alloc o').cell 7
  have e8 := fun o o' => ((hg.alloc o).alloc o').cell 8
  have e9 := fun o o' => ((hg.alloc o).alloc o').cell 9
  have e10 := fun o o' => ((hg.alloc o).alloc o').cell 10
  simp [E.cs] at e0 e1 e2 e3 e4 e5 e6 e7 e8 e9 e10
  simp only [E.v, E.cs]
  clear hg
  generalize d.k = f0, d.id = f1, d.code = f2, d.t = f3, d.body.k = f4, d.body.i = f5, d.body.b = f6, d.body.t = f7, d.body.A = f8, d.body.l.length = f9, d.body.c = f10, d.cA = f11, d.codes.length = f12, d.cc = f13, d.A = A, d.l.length = ll, d.c = c at *
  go_enter Tryz.func214, Tryz.ntmps214
  go_wp2_with fail
  all_goals
    refine bodyPost_ret (v := .agg #[.int .i64 f0, .int .i64 f1, .int .i64 f2, .string f3, .int .i64 f4, .int .i64 f5, .int .u64 f6, .string f7, .slice f8 f9 f10, .slice f11 f12 f13, .slice A ll c]) ?_ rfl ⟨rfl, ?_⟩
    · simp [results, Tryz.results214, go_sem]
    · exact ((Below.refl _ _).alloc (Nat.le_refl _) _).alloc (by simp) _
end Go.Proofs.YtbhmeapnmpgggaaGreatDoor
