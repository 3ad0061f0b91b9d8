/- == of two error values of one plain type. No condition. -/
import Derived.Test.YtbhmeapnmpgggaaGreatDoorWalk
import Derived.Laws.StructEq
namespace Go.Proofs.YtbhmeapnmpgggaaGreatDoor
open Go.RowKit

theorem compPlain : (Tryz.prog.info? 106).map (·.comparable) = some true := by kernel_rfl
theorem compTimed : (Tryz.prog.info? 115).map (·.comparable) = some true := by kernel_rfl
theorem eqText (a b : Int) (s t : ByteArray) : ((a == b) && (s.toList == t.toList)) = (decide (a = b) && decide (s = t)) := by
  have h : (s.toList == t.toList) = decide (s = t) := by
    by_cases h : s = t
    · subst h; simp
    · rw [decide_eq_false h]
      simp only [beq_eq_false_iff_ne, ne_eq]
      exact fun e => h (toList_inj e)
  rw [h]
  by_cases h : a = b <;> simp [h]
set_option maxRecDepth 100000 in
theorem eqPlain (a b : Int) (s t : ByteArray) (w : World) : (binOp .eql 68 (.iface 106 (.agg #[.int .i64 a, .string s])) (.iface 106 (.agg #[.int .i64 b, .string t]))).run Tryz.prog w = .ok (.bool (decide (a = b) && decide (s = t))) w := by
  rw [← eqText a b s t]
  cases hi : Tryz.prog.info? 106 with
  | none => have := compPlain; rw [hi] at this; cases this
  | some i =>
    have hcc : i.comparable = true := by simpa [hi] using compPlain
    have u3 := Tryz.underlying2
    have u9 := Tryz.underlying9
    have hst : (Op.equalIn 9999 106 (.agg #[.int .i64 a, .string s]) (.agg #[.int .i64 b, .string t])).run Tryz.prog w = .ok ((a == b) && (s.toList == t.toList)) w := by
      have hS : Tryz.prog.underlying 106 = some (.struct (Tryz.prog.fieldsOf 106)) := by kernel_rfl
      rw [run_equalIn_struct w 9998 106 _ _ hS (by kernel_rfl)]
      simp only [Program.fieldsOf, Tryz.underlying106]
      go_simp
      by_cases h1 : a = b <;> by_cases h2 : s.toList = t.toList <;> simp [h1, h2]
    have h : (Op.equalIn 10000 68 (.iface 106 (.agg #[.int .i64 a, .string s])) (.iface 106 (.agg #[.int .i64 b, .string t]))).run Tryz.prog w = .ok ((a == b) && (s.toList == t.toList)) w := by
      rw [Op.equalIn]
      simp [run_underlying Tryz.underlying68, typeInfo, hi, hcc, hst]
    simp only [binOp]
    simp [Op.equal, Op.maxDepth, h]
set_option maxRecDepth 100000 in
theorem eqTimed (a b : Int) (s t : ByteArray) (w : World) : (binOp .eql 68 (.iface 115 (.agg #[.int .i64 a, .string s])) (.iface 115 (.agg #[.int .i64 b, .string t]))).run Tryz.prog w = .ok (.bool (decide (a = b) && decide (s = t))) w := by
  rw [← eqText a b s t]
  cases hi : Tryz.prog.info? 115 with
  | none => have := compTimed; rw [hi] at this; cases this
  | some i =>
    have hcc : i.comparable = true := by simpa [hi] using compTimed
    have u3 := Tryz.underlying2
    have u9 := Tryz.underlying9
    have hst : (Op.equalIn 9999 115 (.agg #[.int .i64 a, .string s]) (.agg #[.int .i64 b, .string t])).run Tryz.prog w = .ok ((a == b) && (s.toList == t.toList)) w := by
      have hS : Tryz.prog.underlying 115 = some (.struct (Tryz.prog.fieldsOf 115)) := by kernel_rfl
      rw [run_equalIn_struct w 9998 115 _ _ hS (by kernel_rfl)]
      simp only [Program.fieldsOf, Tryz.underlying115]
      go_simp
      by_cases h1 : a = b <;> by_cases h2 : s.toList = t.toList <;> simp [h1, h2]
    have h : (Op.equalIn 10000 68 (.iface 115 (.agg #[.int .i64 a, .string s])) (.iface 115 (.agg #[.int .i64 b, .string t]))).run Tryz.prog w = .ok ((a == b) && (s.toList == t.toList)) w := by
      rw [Op.equalIn]
      simp [run_underlying Tryz.underlying68, typeInfo, hi, hcc, hst]
    simp only [binOp]
    simp [Op.equal, Op.maxDepth, h]
end Go.Proofs.YtbhmeapnmpgggaaGreatDoor
