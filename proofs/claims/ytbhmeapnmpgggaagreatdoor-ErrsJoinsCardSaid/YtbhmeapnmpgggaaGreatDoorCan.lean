/- errs.can: the walk. No condition. -/
import Derived.Test.YtbhmeapnmpgggaaGreatDoorUnwrapM
import Derived.Stop.Asserts
namespace Go.Proofs.YtbhmeapnmpgggaaGreatDoor
open Go.RowKit

def hasE (k face : Int) : Bool :=
  if face = 0 then k == 10 else if face = 1 then k == 10 else if face = 3 then k == 10 else if face = 2 then k == 1 || k == 10 else if face = 4 then k == 3 || k == 8
  else if face = 5 then k == 4 else if face = 6 then k == 8 else if face = 7 then k == 9 else false
/-- what an assertion gives: 'y', and whether it holds -/
def asserted (ok : Bool) (x : Value) : Value := .tuple #[if ok then x else .nilIface, .bool ok]
theorem asPlain0 (x : Value) (w : World) : (Instr.typeAssert (.iface 106 x) 68 97 true).run Tryz.prog w = .ok (.tuple #[.nilIface, .bool false]) w := run_typeAssert_lacksB Tryz.underlying97 (by kernel_rfl) (by kernel_rfl) x _ w
theorem asPlain1 (x : Value) (w : World) : (Instr.typeAssert (.iface 106 x) 68 138 true).run Tryz.prog w = .ok (.tuple #[.nilIface, .bool false]) w := run_typeAssert_lacksB Tryz.underlying138 (by kernel_rfl) (by kernel_rfl) x _ w
theorem asPlain2 (x : Value) (w : World) : (Instr.typeAssert (.iface 106 x) 68 101 true).run Tryz.prog w = .ok (.tuple #[(.iface 106 x), .bool true]) w := by kernel_rfl
theorem asPlain3 (x : Value) (w : World) : (Instr.typeAssert (.iface 106 x) 68 142 true).run Tryz.prog w = .ok (.tuple #[.nilIface, .bool false]) w := run_typeAssert_lacksB Tryz.underlying142 (by kernel_rfl) (by kernel_rfl) x _ w
theorem asPlain4 (x : Value) (w : World) : (Instr.typeAssert (.iface 106 x) 68 130 true).run Tryz.prog w = .ok (.tuple #[.nilIface, .bool false]) w := run_typeAssert_lacksB Tryz.underlying130 (by kernel_rfl) (by kernel_rfl) x _ w
theorem asPlain5 (x : Value) (w : World) : (Instr.typeAssert (.iface 106 x) 68 133 true).run Tryz.prog w = .ok (.tuple #[.nilIface, .bool false]) w := run_typeAssert_lacksB Tryz.underlying133 (by kernel_rfl) (by kernel_rfl) x _ w
theorem asPlain6 (x : Value) (w : World) : (Instr.typeAssert (.iface 106 x) 68 75 true).run Tryz.prog w = .ok (.tuple #[.nilIface, .bool false]) w := run_typeAssert_lacksB Tryz.underlying75 (by kernel_rfl) (by kernel_rfl) x _ w
theorem asPlain7 (x : Value) (w : World) : (Instr.typeAssert (.iface 106 x) 68 147 true).run Tryz.prog w = .ok (.tuple #[.nilIface, .bool false]) w := run_typeAssert_lacksB Tryz.underlying147 (by kernel_rfl) (by kernel_rfl) x _ w
theorem asPtr0 (x : Value) (w : World) : (Instr.typeAssert (.iface 94 x) 68 97 true).run Tryz.prog w = .ok (.tuple #[.nilIface, .bool false]) w := run_typeAssert_lacksB Tryz.underlying97 (by kernel_rfl) (by kernel_rfl) x _ w
theorem asPtr1 (x : Value) (w : World) : (Instr.typeAssert (.iface 94 x) 68 138 true).run Tryz.prog w = .ok (.tuple #[.nilIface, .bool false]) w := run_typeAssert_lacksB Tryz.underlying138 (by kernel_rfl) (by kernel_rfl) x _ w
theorem asPtr2 (x : Value) (w : World) : (Instr.typeAssert (.iface 94 x) 68 101 true).run Tryz.prog w = .ok (.tuple #[.nilIface, .bool false]) w := run_typeAssert_lacksB Tryz.underlying101 (by kernel_rfl) (by kernel_rfl) x _ w
theorem asPtr3 (x : Value) (w : World) : (Instr.typeAssert (.iface 94 x) 68 142 true).run Tryz.prog w = .ok (.tuple #[.nilIface, .bool false]) w := run_typeAssert_lacksB Tryz.underlying142 (by kernel_rfl) (by kernel_rfl) x _ w
theorem asPtr4 (x : Value) (w : World) : (Instr.typeAssert (.iface 94 x) 68 130 true).run Tryz.prog w = .ok (.tuple #[.nilIface, .bool false]) w := run_typeAssert_lacksB Tryz.underlying130 (by kernel_rfl) (by kernel_rfl) x _ w
theorem asPtr5 (x : Value) (w : World) : (Instr.typeAssert (.iface 94 x) 68 133 true).run Tryz.prog w = .ok (.tuple #[.nilIface, .bool false]) w := run_typeAssert_lacksB Tryz.underlying133 (by kernel_rfl) (by kernel_rfl) x _ w
theorem asPtr6 (x : Value) (w : World) : (Instr.typeAssert (.iface 94 x) 68 75 true).run Tryz.prog w = .ok (.tuple #[.nilIface, .bool false]) w := run_typeAssert_lacksB Tryz.underlying75 (by kernel_rfl) (by kernel_rfl) x _ w
theorem asPtr7 (x : Value) (w : World) : (Instr.typeAssert (.iface 94 x) 68 147 true).run Tryz.prog w = .ok (.tuple #[.nilIface, .bool false]) w := run_typeAssert_lacksB Tryz.underlying147 (by kernel_rfl) (by kernel_rfl) x _ w
theorem asWrap0 (x : Value) (w : World) : (Instr.typeAssert (.iface 107 x) 68 97 true).run Tryz.prog w = .ok (.tuple #[.nilIface, .bool false]) w := run_typeAssert_lacksB Tryz.underlying97 (by kernel_rfl) (by kernel_rfl) x _ w
theorem asWrap1 (x : Value) (w : World) : (Instr.typeAssert (.iface 107 x) 68 138 true).run Tryz.prog w = .ok (.tuple #[.nilIface, .bool false]) w := run_typeAssert_lacksB Tryz.underlying138 (by kernel_rfl) (by kernel_rfl) x _ w
theorem asWrap2 (x : Value) (w : World) : (Instr.typeAssert (.iface 107 x) 68 101 true).run Tryz.prog w = .ok (.tuple #[.nilIface, .bool false]) w := run_typeAssert_lacksB Tryz.underlying101 (by kernel_rfl) (by kernel_rfl) x _ w
theorem asWrap3 (x : Value) (w : World) : (Instr.typeAssert (.iface 107 x) 68 142 true).run Tryz.prog w = .ok (.tuple #[.nilIface, .bool false]) w := run_typeAssert_lacksB Tryz.underlying142 (by kernel_rfl) (by kernel_rfl) x _ w
theorem asWrap4 (x : Value) (w : World) : (Instr.typeAssert (.iface 107 x) 68 130 true).run Tryz.prog w = .ok (.tuple #[(.iface 107 x), .bool true]) w := by kernel_rfl
theorem asWrap5 (x : Value) (w : World) : (Instr.typeAssert (.iface 107 x) 68 133 true).run Tryz.prog w = .ok (.tuple #[.nilIface, .bool false]) w := run_typeAssert_lacksB Tryz.underlying133 (by kernel_rfl) (by kernel_rfl) x _ w
theorem asWrap6 (x : Value) (w : World) : (Instr.typeAssert (.iface 107 x) 68 75 true).run Tryz.prog w = .ok (.tuple #[.nilIface, .bool false]) w := run_typeAssert_lacksB Tryz.underlying75 (by kernel_rfl) (by kernel_rfl) x _ w
theorem asWrap7 (x : Value) (w : World) : (Instr.typeAssert (.iface 107 x) 68 147 true).run Tryz.prog w = .ok (.tuple #[.nilIface, .bool false]) w := run_typeAssert_lacksB Tryz.underlying147 (by kernel_rfl) (by kernel_rfl) x _ w
theorem asMany0 (x : Value) (w : World) : (Instr.typeAssert (.iface 108 x) 68 97 true).run Tryz.prog w = .ok (.tuple #[.nilIface, .bool false]) w := run_typeAssert_lacksB Tryz.underlying97 (by kernel_rfl) (by kernel_rfl) x _ w
theorem asMany1 (x : Value) (w : World) : (Instr.typeAssert (.iface 108 x) 68 138 true).run Tryz.prog w = .ok (.tuple #[.nilIface, .bool false]) w := run_typeAssert_lacksB Tryz.underlying138 (by kernel_rfl) (by kernel_rfl) x _ w
theorem asMany2 (x : Value) (w : World) : (Instr.typeAssert (.iface 108 x) 68 101 true).run Tryz.prog w = .ok (.tuple #[.nilIface, .bool false]) w := run_typeAssert_lacksB Tryz.underlying101 (by kernel_rfl) (by kernel_rfl) x _ w
theorem asMany3 (x : Value) (w : World) : (Instr.typeAssert (.iface 108 x) 68 142 true).run Tryz.prog w = .ok (.tuple #[.nilIface, .bool false]) w := run_typeAssert_lacksB Tryz.underlying142 (by kernel_rfl) (by kernel_rfl) x _ w
theorem asMany4 (x : Value) (w : World) : (Instr.typeAssert (.iface 108 x) 68 130 true).run Tryz.prog w = .ok (.tuple #[.nilIface, .bool false]) w := run_typeAssert_lacksB Tryz.underlying130 (by kernel_rfl) (by kernel_rfl) x _ w
theorem asMany5 (x : Value) (w : World) : (Instr.typeAssert (.iface 108 x) 68 133 true).run Tryz.prog w = .ok (.tuple #[(.iface 108 x), .bool true]) w := by kernel_rfl
theorem asMany6 (x : Value) (w : World) : (Instr.typeAssert (.iface 108 x) 68 75 true).run Tryz.prog w = .ok (.tuple #[.nilIface, .bool false]) w := run_typeAssert_lacksB Tryz.underlying75 (by kernel_rfl) (by kernel_rfl) x _ w
theorem asMany7 (x : Value) (w : World) : (Instr.typeAssert (.iface 108 x) 68 147 true).run Tryz.prog w = .ok (.tuple #[.nilIface, .bool false]) w := run_typeAssert_lacksB Tryz.underlying147 (by kernel_rfl) (by kernel_rfl) x _ w
theorem asHold0 (x : Value) (w : World) : (Instr.typeAssert (.iface 111 x) 68 97 true).run Tryz.prog w = .ok (.tuple #[.nilIface, .bool false]) w := run_typeAssert_lacksB Tryz.underlying97 (by kernel_rfl) (by kernel_rfl) x _ w
theorem asHold1 (x : Value) (w : World) : (Instr.typeAssert (.iface 111 x) 68 138 true).run Tryz.prog w = .ok (.tuple #[.nilIface, .bool false]) w := run_typeAssert_lacksB Tryz.underlying138 (by kernel_rfl) (by kernel_rfl) x _ w
theorem asHold2 (x : Value) (w : World) : (Instr.typeAssert (.iface 111 x) 68 101 true).run Tryz.prog w = .ok (.tuple #[.nilIface, .bool false]) w := run_typeAssert_lacksB Tryz.underlying101 (by kernel_rfl) (by kernel_rfl) x _ w
theorem asHold3 (x : Value) (w : World) : (Instr.typeAssert (.iface 111 x) 68 142 true).run Tryz.prog w = .ok (.tuple #[.nilIface, .bool false]) w := run_typeAssert_lacksB Tryz.underlying142 (by kernel_rfl) (by kernel_rfl) x _ w
theorem asHold4 (x : Value) (w : World) : (Instr.typeAssert (.iface 111 x) 68 130 true).run Tryz.prog w = .ok (.tuple #[.nilIface, .bool false]) w := run_typeAssert_lacksB Tryz.underlying130 (by kernel_rfl) (by kernel_rfl) x _ w
theorem asHold5 (x : Value) (w : World) : (Instr.typeAssert (.iface 111 x) 68 133 true).run Tryz.prog w = .ok (.tuple #[.nilIface, .bool false]) w := run_typeAssert_lacksB Tryz.underlying133 (by kernel_rfl) (by kernel_rfl) x _ w
theorem asHold6 (x : Value) (w : World) : (Instr.typeAssert (.iface 111 x) 68 75 true).run Tryz.prog w = .ok (.tuple #[.nilIface, .bool false]) w := run_typeAssert_lacksB Tryz.underlying75 (by kernel_rfl) (by kernel_rfl) x _ w
theorem asHold7 (x : Value) (w : World) : (Instr.typeAssert (.iface 111 x) 68 147 true).run Tryz.prog w = .ok (.tuple #[.nilIface, .bool false]) w := run_typeAssert_lacksB Tryz.underlying147 (by kernel_rfl) (by kernel_rfl) x _ w
theorem asList0 (x : Value) (w : World) : (Instr.typeAssert (.iface 112 x) 68 97 true).run Tryz.prog w = .ok (.tuple #[.nilIface, .bool false]) w := run_typeAssert_lacksB Tryz.underlying97 (by kernel_rfl) (by kernel_rfl) x _ w
theorem asList1 (x : Value) (w : World) : (Instr.typeAssert (.iface 112 x) 68 138 true).run Tryz.prog w = .ok (.tuple #[.nilIface, .bool false]) w := run_typeAssert_lacksB Tryz.underlying138 (by kernel_rfl) (by kernel_rfl) x _ w
theorem asList2 (x : Value) (w : World) : (Instr.typeAssert (.iface 112 x) 68 101 true).run Tryz.prog w = .ok (.tuple #[.nilIface, .bool false]) w := run_typeAssert_lacksB Tryz.underlying101 (by kernel_rfl) (by kernel_rfl) x _ w
theorem asList3 (x : Value) (w : World) : (Instr.typeAssert (.iface 112 x) 68 142 true).run Tryz.prog w = .ok (.tuple #[.nilIface, .bool false]) w := run_typeAssert_lacksB Tryz.underlying142 (by kernel_rfl) (by kernel_rfl) x _ w
theorem asList4 (x : Value) (w : World) : (Instr.typeAssert (.iface 112 x) 68 130 true).run Tryz.prog w = .ok (.tuple #[.nilIface, .bool false]) w := run_typeAssert_lacksB Tryz.underlying130 (by kernel_rfl) (by kernel_rfl) x _ w
theorem asList5 (x : Value) (w : World) : (Instr.typeAssert (.iface 112 x) 68 133 true).run Tryz.prog w = .ok (.tuple #[.nilIface, .bool false]) w := run_typeAssert_lacksB Tryz.underlying133 (by kernel_rfl) (by kernel_rfl) x _ w
theorem asList6 (x : Value) (w : World) : (Instr.typeAssert (.iface 112 x) 68 75 true).run Tryz.prog w = .ok (.tuple #[.nilIface, .bool false]) w := run_typeAssert_lacksB Tryz.underlying75 (by kernel_rfl) (by kernel_rfl) x _ w
theorem asList7 (x : Value) (w : World) : (Instr.typeAssert (.iface 112 x) 68 147 true).run Tryz.prog w = .ok (.tuple #[.nilIface, .bool false]) w := run_typeAssert_lacksB Tryz.underlying147 (by kernel_rfl) (by kernel_rfl) x _ w
theorem asLike0 (x : Value) (w : World) : (Instr.typeAssert (.iface 113 x) 68 97 true).run Tryz.prog w = .ok (.tuple #[.nilIface, .bool false]) w := run_typeAssert_lacksB Tryz.underlying97 (by kernel_rfl) (by kernel_rfl) x _ w
theorem asLike1 (x : Value) (w : World) : (Instr.typeAssert (.iface 113 x) 68 138 true).run Tryz.prog w = .ok (.tuple #[.nilIface, .bool false]) w := run_typeAssert_lacksB Tryz.underlying138 (by kernel_rfl) (by kernel_rfl) x _ w
theorem asLike2 (x : Value) (w : World) : (Instr.typeAssert (.iface 113 x) 68 101 true).run Tryz.prog w = .ok (.tuple #[.nilIface, .bool false]) w := run_typeAssert_lacksB Tryz.underlying101 (by kernel_rfl) (by kernel_rfl) x _ w
theorem asLike3 (x : Value) (w : World) : (Instr.typeAssert (.iface 113 x) 68 142 true).run Tryz.prog w = .ok (.tuple #[.nilIface, .bool false]) w := run_typeAssert_lacksB Tryz.underlying142 (by kernel_rfl) (by kernel_rfl) x _ w
theorem asLike4 (x : Value) (w : World) : (Instr.typeAssert (.iface 113 x) 68 130 true).run Tryz.prog w = .ok (.tuple #[(.iface 113 x), .bool true]) w := by kernel_rfl
theorem asLike5 (x : Value) (w : World) : (Instr.typeAssert (.iface 113 x) 68 133 true).run Tryz.prog w = .ok (.tuple #[.nilIface, .bool false]) w := run_typeAssert_lacksB Tryz.underlying133 (by kernel_rfl) (by kernel_rfl) x _ w
theorem asLike6 (x : Value) (w : World) : (Instr.typeAssert (.iface 113 x) 68 75 true).run Tryz.prog w = .ok (.tuple #[(.iface 113 x), .bool true]) w := by kernel_rfl
theorem asLike7 (x : Value) (w : World) : (Instr.typeAssert (.iface 113 x) 68 147 true).run Tryz.prog w = .ok (.tuple #[.nilIface, .bool false]) w := run_typeAssert_lacksB Tryz.underlying147 (by kernel_rfl) (by kernel_rfl) x _ w
theorem asAs0 (x : Value) (w : World) : (Instr.typeAssert (.iface 114 x) 68 97 true).run Tryz.prog w = .ok (.tuple #[.nilIface, .bool false]) w := run_typeAssert_lacksB Tryz.underlying97 (by kernel_rfl) (by kernel_rfl) x _ w
theorem asAs1 (x : Value) (w : World) : (Instr.typeAssert (.iface 114 x) 68 138 true).run Tryz.prog w = .ok (.tuple #[.nilIface, .bool false]) w := run_typeAssert_lacksB Tryz.underlying138 (by kernel_rfl) (by kernel_rfl) x _ w
theorem asAs2 (x : Value) (w : World) : (Instr.typeAssert (.iface 114 x) 68 101 true).run Tryz.prog w = .ok (.tuple #[.nilIface, .bool false]) w := run_typeAssert_lacksB Tryz.underlying101 (by kernel_rfl) (by kernel_rfl) x _ w
theorem asAs3 (x : Value) (w : World) : (Instr.typeAssert (.iface 114 x) 68 142 true).run Tryz.prog w = .ok (.tuple #[.nilIface, .bool false]) w := run_typeAssert_lacksB Tryz.underlying142 (by kernel_rfl) (by kernel_rfl) x _ w
theorem asAs4 (x : Value) (w : World) : (Instr.typeAssert (.iface 114 x) 68 130 true).run Tryz.prog w = .ok (.tuple #[.nilIface, .bool false]) w := run_typeAssert_lacksB Tryz.underlying130 (by kernel_rfl) (by kernel_rfl) x _ w
theorem asAs5 (x : Value) (w : World) : (Instr.typeAssert (.iface 114 x) 68 133 true).run Tryz.prog w = .ok (.tuple #[.nilIface, .bool false]) w := run_typeAssert_lacksB Tryz.underlying133 (by kernel_rfl) (by kernel_rfl) x _ w
theorem asAs6 (x : Value) (w : World) : (Instr.typeAssert (.iface 114 x) 68 75 true).run Tryz.prog w = .ok (.tuple #[.nilIface, .bool false]) w := run_typeAssert_lacksB Tryz.underlying75 (by kernel_rfl) (by kernel_rfl) x _ w
theorem asAs7 (x : Value) (w : World) : (Instr.typeAssert (.iface 114 x) 68 147 true).run Tryz.prog w = .ok (.tuple #[(.iface 114 x), .bool true]) w := by kernel_rfl
theorem asTime0 (x : Value) (w : World) : (Instr.typeAssert (.iface 115 x) 68 97 true).run Tryz.prog w = .ok (.tuple #[(.iface 115 x), .bool true]) w := by kernel_rfl
theorem asTime1 (x : Value) (w : World) : (Instr.typeAssert (.iface 115 x) 68 138 true).run Tryz.prog w = .ok (.tuple #[(.iface 115 x), .bool true]) w := by kernel_rfl
theorem asTime2 (x : Value) (w : World) : (Instr.typeAssert (.iface 115 x) 68 101 true).run Tryz.prog w = .ok (.tuple #[(.iface 115 x), .bool true]) w := by kernel_rfl
theorem asTime3 (x : Value) (w : World) : (Instr.typeAssert (.iface 115 x) 68 142 true).run Tryz.prog w = .ok (.tuple #[(.iface 115 x), .bool true]) w := by kernel_rfl
theorem asTime4 (x : Value) (w : World) : (Instr.typeAssert (.iface 115 x) 68 130 true).run Tryz.prog w = .ok (.tuple #[.nilIface, .bool false]) w := run_typeAssert_lacksB Tryz.underlying130 (by kernel_rfl) (by kernel_rfl) x _ w
theorem asTime5 (x : Value) (w : World) : (Instr.typeAssert (.iface 115 x) 68 133 true).run Tryz.prog w = .ok (.tuple #[.nilIface, .bool false]) w := run_typeAssert_lacksB Tryz.underlying133 (by kernel_rfl) (by kernel_rfl) x _ w
theorem asTime6 (x : Value) (w : World) : (Instr.typeAssert (.iface 115 x) 68 75 true).run Tryz.prog w = .ok (.tuple #[.nilIface, .bool false]) w := run_typeAssert_lacksB Tryz.underlying75 (by kernel_rfl) (by kernel_rfl) x _ w
theorem asTime7 (x : Value) (w : World) : (Instr.typeAssert (.iface 115 x) 68 147 true).run Tryz.prog w = .ok (.tuple #[.nilIface, .bool false]) w := run_typeAssert_lacksB Tryz.underlying147 (by kernel_rfl) (by kernel_rfl) x _ w
theorem asNil0 (w : World) : (Instr.typeAssert .nilIface 68 97 true).run Tryz.prog w = .ok (.tuple #[.nilIface, .bool false]) w := by kernel_rfl
theorem asNil1 (w : World) : (Instr.typeAssert .nilIface 68 138 true).run Tryz.prog w = .ok (.tuple #[.nilIface, .bool false]) w := by kernel_rfl
theorem asNil2 (w : World) : (Instr.typeAssert .nilIface 68 101 true).run Tryz.prog w = .ok (.tuple #[.nilIface, .bool false]) w := by kernel_rfl
theorem asNil3 (w : World) : (Instr.typeAssert .nilIface 68 142 true).run Tryz.prog w = .ok (.tuple #[.nilIface, .bool false]) w := by kernel_rfl
theorem asNil4 (w : World) : (Instr.typeAssert .nilIface 68 130 true).run Tryz.prog w = .ok (.tuple #[.nilIface, .bool false]) w := by kernel_rfl
theorem asNil5 (w : World) : (Instr.typeAssert .nilIface 68 133 true).run Tryz.prog w = .ok (.tuple #[.nilIface, .bool false]) w := by kernel_rfl
theorem asNil6 (w : World) : (Instr.typeAssert .nilIface 68 75 true).run Tryz.prog w = .ok (.tuple #[.nilIface, .bool false]) w := by kernel_rfl
theorem asNil7 (w : World) : (Instr.typeAssert .nilIface 68 147 true).run Tryz.prog w = .ok (.tuple #[.nilIface, .bool false]) w := by kernel_rfl

set_option maxHeartbeats 2000000 in
set_option maxRecDepth 100000 in
theorem canPlain (x : Value) (face : Int) (w : World) : Calls Tryz.prog 60 #[(.iface 106 x), .int .i64 face] w fun e w' => e = .returned (.bool (face == 2)) ∧ w' = w := by
  have a0 := asPlain0 x
  have a1 := asPlain1 x
  have a2 := asPlain2 x
  have a3 := asPlain3 x
  have a4 := asPlain4 x
  have a5 := asPlain5 x
  have a6 := asPlain6 x
  have a7 := asPlain7 x
  go_enter Tryz.func60, Tryz.ntmps60
  go_wp2_with fail
  all_goals
    go_ret
    refine ⟨?_, rfl⟩
    first
      | (have e : face = 0 := eq_of_beq (by assumption); subst e; rfl)
      | (have e : face = 1 := eq_of_beq (by assumption); subst e; rfl)
      | (have e : face = 2 := eq_of_beq (by assumption); subst e; rfl)
      | (have e : face = 3 := eq_of_beq (by assumption); subst e; rfl)
      | (have e : face = 4 := eq_of_beq (by assumption); subst e; rfl)
      | (have e : face = 5 := eq_of_beq (by assumption); subst e; rfl)
      | (have e : face = 6 := eq_of_beq (by assumption); subst e; rfl)
      | (have e : face = 7 := eq_of_beq (by assumption); subst e; rfl)
      | (simp only [*]; rfl)

set_option maxHeartbeats 2000000 in
set_option maxRecDepth 100000 in
theorem canPtr (x : Value) (face : Int) (w : World) : Calls Tryz.prog 60 #[(.iface 94 x), .int .i64 face] w fun e w' => e = .returned (.bool (false)) ∧ w' = w := by
  have a0 := asPtr0 x
  have a1 := asPtr1 x
  have a2 := asPtr2 x
  have a3 := asPtr3 x
  have a4 := asPtr4 x
  have a5 := asPtr5 x
  have a6 := asPtr6 x
  have a7 := asPtr7 x
  go_enter Tryz.func60, Tryz.ntmps60
  go_wp2_with fail
  all_goals
    go_ret
    refine ⟨?_, rfl⟩
    first
      | rfl
      | (simp only [*]; rfl)

set_option maxHeartbeats 2000000 in
set_option maxRecDepth 100000 in
theorem canWrap (x : Value) (face : Int) (w : World) : Calls Tryz.prog 60 #[(.iface 107 x), .int .i64 face] w fun e w' => e = .returned (.bool (face == 4)) ∧ w' = w := by
  have a0 := asWrap0 x
  have a1 := asWrap1 x
  have a2 := asWrap2 x
  have a3 := asWrap3 x
  have a4 := asWrap4 x
  have a5 := asWrap5 x
  have a6 := asWrap6 x
  have a7 := asWrap7 x
  go_enter Tryz.func60, Tryz.ntmps60
  go_wp2_with fail
  all_goals
    go_ret
    refine ⟨?_, rfl⟩
    first
      | (have e : face = 0 := eq_of_beq (by assumption); subst e; rfl)
      | (have e : face = 1 := eq_of_beq (by assumption); subst e; rfl)
      | (have e : face = 2 := eq_of_beq (by assumption); subst e; rfl)
      | (have e : face = 3 := eq_of_beq (by assumption); subst e; rfl)
      | (have e : face = 4 := eq_of_beq (by assumption); subst e; rfl)
      | (have e : face = 5 := eq_of_beq (by assumption); subst e; rfl)
      | (have e : face = 6 := eq_of_beq (by assumption); subst e; rfl)
      | (have e : face = 7 := eq_of_beq (by assumption); subst e; rfl)
      | (simp only [*]; rfl)

set_option maxHeartbeats 2000000 in
set_option maxRecDepth 100000 in
theorem canMany (x : Value) (face : Int) (w : World) : Calls Tryz.prog 60 #[(.iface 108 x), .int .i64 face] w fun e w' => e = .returned (.bool (face == 5)) ∧ w' = w := by
  have a0 := asMany0 x
  have a1 := asMany1 x
  have a2 := asMany2 x
  have a3 := asMany3 x
  have a4 := asMany4 x
  have a5 := asMany5 x
  have a6 := asMany6 x
  have a7 := asMany7 x
  go_enter Tryz.func60, Tryz.ntmps60
  go_wp2_with fail
  all_goals
    go_ret
    refine ⟨?_, rfl⟩
    first
      | (have e : face = 0 := eq_of_beq (by assumption); subst e; rfl)
      | (have e : face = 1 := eq_of_beq (by assumption); subst e; rfl)
      | (have e : face = 2 := eq_of_beq (by assumption); subst e; rfl)
      | (have e : face = 3 := eq_of_beq (by assumption); subst e; rfl)
      | (have e : face = 4 := eq_of_beq (by assumption); subst e; rfl)
      | (have e : face = 5 := eq_of_beq (by assumption); subst e; rfl)
      | (have e : face = 6 := eq_of_beq (by assumption); subst e; rfl)
      | (have e : face = 7 := eq_of_beq (by assumption); subst e; rfl)
      | (simp only [*]; rfl)

set_option maxHeartbeats 2000000 in
set_option maxRecDepth 100000 in
theorem canHold (x : Value) (face : Int) (w : World) : Calls Tryz.prog 60 #[(.iface 111 x), .int .i64 face] w fun e w' => e = .returned (.bool (false)) ∧ w' = w := by
  have a0 := asHold0 x
  have a1 := asHold1 x
  have a2 := asHold2 x
  have a3 := asHold3 x
  have a4 := asHold4 x
  have a5 := asHold5 x
  have a6 := asHold6 x
  have a7 := asHold7 x
  go_enter Tryz.func60, Tryz.ntmps60
  go_wp2_with fail
  all_goals
    go_ret
    refine ⟨?_, rfl⟩
    first
      | rfl
      | (simp only [*]; rfl)

set_option maxHeartbeats 2000000 in
set_option maxRecDepth 100000 in
theorem canList (x : Value) (face : Int) (w : World) : Calls Tryz.prog 60 #[(.iface 112 x), .int .i64 face] w fun e w' => e = .returned (.bool (false)) ∧ w' = w := by
  have a0 := asList0 x
  have a1 := asList1 x
  have a2 := asList2 x
  have a3 := asList3 x
  have a4 := asList4 x
  have a5 := asList5 x
  have a6 := asList6 x
  have a7 := asList7 x
  go_enter Tryz.func60, Tryz.ntmps60
  go_wp2_with fail
  all_goals
    go_ret
    refine ⟨?_, rfl⟩
    first
      | rfl
      | (simp only [*]; rfl)

set_option maxHeartbeats 2000000 in
set_option maxRecDepth 100000 in
theorem canLike (x : Value) (face : Int) (w : World) : Calls Tryz.prog 60 #[(.iface 113 x), .int .i64 face] w fun e w' => e = .returned (.bool (face == 4 || face == 6)) ∧ w' = w := by
  have a0 := asLike0 x
  have a1 := asLike1 x
  have a2 := asLike2 x
  have a3 := asLike3 x
  have a4 := asLike4 x
  have a5 := asLike5 x
  have a6 := asLike6 x
  have a7 := asLike7 x
  go_enter Tryz.func60, Tryz.ntmps60
  go_wp2_with fail
  all_goals
    go_ret
    refine ⟨?_, rfl⟩
    first
      | (have e : face = 0 := eq_of_beq (by assumption); subst e; rfl)
      | (have e : face = 1 := eq_of_beq (by assumption); subst e; rfl)
      | (have e : face = 2 := eq_of_beq (by assumption); subst e; rfl)
      | (have e : face = 3 := eq_of_beq (by assumption); subst e; rfl)
      | (have e : face = 4 := eq_of_beq (by assumption); subst e; rfl)
      | (have e : face = 5 := eq_of_beq (by assumption); subst e; rfl)
      | (have e : face = 6 := eq_of_beq (by assumption); subst e; rfl)
      | (have e : face = 7 := eq_of_beq (by assumption); subst e; rfl)
      | (simp only [*]; rfl)

set_option maxHeartbeats 2000000 in
set_option maxRecDepth 100000 in
theorem canAs (x : Value) (face : Int) (w : World) : Calls Tryz.prog 60 #[(.iface 114 x), .int .i64 face] w fun e w' => e = .returned (.bool (face == 7)) ∧ w' = w := by
  have a0 := asAs0 x
  have a1 := asAs1 x
  have a2 := asAs2 x
  have a3 := asAs3 x
  have a4 := asAs4 x
  have a5 := asAs5 x
  have a6 := asAs6 x
  have a7 := asAs7 x
  go_enter Tryz.func60, Tryz.ntmps60
  go_wp2_with fail
  all_goals
    go_ret
    refine ⟨?_, rfl⟩
    first
      | (have e : face = 0 := eq_of_beq (by assumption); subst e; rfl)
      | (have e : face = 1 := eq_of_beq (by assumption); subst e; rfl)
      | (have e : face = 2 := eq_of_beq (by assumption); subst e; rfl)
      | (have e : face = 3 := eq_of_beq (by assumption); subst e; rfl)
      | (have e : face = 4 := eq_of_beq (by assumption); subst e; rfl)
      | (have e : face = 5 := eq_of_beq (by assumption); subst e; rfl)
      | (have e : face = 6 := eq_of_beq (by assumption); subst e; rfl)
      | (have e : face = 7 := eq_of_beq (by assumption); subst e; rfl)
      | (simp only [*]; rfl)

set_option maxHeartbeats 2000000 in
set_option maxRecDepth 100000 in
theorem canTime (x : Value) (face : Int) (w : World) : Calls Tryz.prog 60 #[(.iface 115 x), .int .i64 face] w fun e w' => e = .returned (.bool (face == 0 || face == 1 || face == 2 || face == 3)) ∧ w' = w := by
  have a0 := asTime0 x
  have a1 := asTime1 x
  have a2 := asTime2 x
  have a3 := asTime3 x
  have a4 := asTime4 x
  have a5 := asTime5 x
  have a6 := asTime6 x
  have a7 := asTime7 x
  go_enter Tryz.func60, Tryz.ntmps60
  go_wp2_with fail
  all_goals
    go_ret
    refine ⟨?_, rfl⟩
    first
      | (have e : face = 0 := eq_of_beq (by assumption); subst e; rfl)
      | (have e : face = 1 := eq_of_beq (by assumption); subst e; rfl)
      | (have e : face = 2 := eq_of_beq (by assumption); subst e; rfl)
      | (have e : face = 3 := eq_of_beq (by assumption); subst e; rfl)
      | (have e : face = 4 := eq_of_beq (by assumption); subst e; rfl)
      | (have e : face = 5 := eq_of_beq (by assumption); subst e; rfl)
      | (have e : face = 6 := eq_of_beq (by assumption); subst e; rfl)
      | (have e : face = 7 := eq_of_beq (by assumption); subst e; rfl)
      | (simp only [*]; rfl)

set_option maxHeartbeats 2000000 in
set_option maxRecDepth 100000 in
theorem canNil (face : Int) (w : World) : Calls Tryz.prog 60 #[.nilIface, .int .i64 face] w fun e w' => e = .returned (.bool (false)) ∧ w' = w := by
  have a0 := asNil0
  have a1 := asNil1
  have a2 := asNil2
  have a3 := asNil3
  have a4 := asNil4
  have a5 := asNil5
  have a6 := asNil6
  have a7 := asNil7
  go_enter Tryz.func60, Tryz.ntmps60
  go_wp2_with fail
  all_goals
    go_ret
    refine ⟨?_, rfl⟩
    first
      | rfl
      | (simp only [*]; rfl)

theorem can_any {B : Nat} {w : World} {e : E} {v : Value} (h : EV B w e v) (face : Int) (w' : World) : Calls Tryz.prog 60 #[v, .int .i64 face] w' fun x w'' => x = .returned (.bool (hasE e.k face)) ∧ w'' = w' := by
  rcases h with ⟨hk, rfl⟩ | ⟨hk, g, _, rfl, _⟩ | ⟨hk, g, _, rfl, _⟩ | ⟨hk, g, _, rfl, _⟩ | ⟨hk, g, _, rfl, _⟩ | ⟨hk, rfl⟩ | ⟨hk, rfl⟩ | ⟨hk, g, _, rfl, _⟩ | ⟨hk, g, _, rfl, _⟩ | ⟨hk, rfl⟩ | ⟨hk, rfl⟩
  · rw [hk]; refine (canPlain _ face w').mono ?_; rintro x w2 ⟨rfl, rfl⟩; refine ⟨congrArg (fun b => Ending.returned (.bool b)) ?_, rfl⟩; unfold hasE; by_cases h0 : face = 0 <;> by_cases h1 : face = 1 <;> by_cases h2 : face = 2 <;> by_cases h3 : face = 3 <;> by_cases h4 : face = 4 <;> by_cases h5 : face = 5 <;> by_cases h6 : face = 6 <;> by_cases h7 : face = 7 <;> simp_all
  · rw [hk]; refine (canPtr _ face w').mono ?_; rintro x w2 ⟨rfl, rfl⟩; refine ⟨congrArg (fun b => Ending.returned (.bool b)) ?_, rfl⟩; unfold hasE; by_cases h0 : face = 0 <;> by_cases h1 : face = 1 <;> by_cases h2 : face = 2 <;> by_cases h3 : face = 3 <;> by_cases h4 : face = 4 <;> by_cases h5 : face = 5 <;> by_cases h6 : face = 6 <;> by_cases h7 : face = 7 <;> simp_all
  · rw [hk]; refine (canWrap _ face w').mono ?_; rintro x w2 ⟨rfl, rfl⟩; refine ⟨congrArg (fun b => Ending.returned (.bool b)) ?_, rfl⟩; unfold hasE; by_cases h0 : face = 0 <;> by_cases h1 : face = 1 <;> by_cases h2 : face = 2 <;> by_cases h3 : face = 3 <;> by_cases h4 : face = 4 <;> by_cases h5 : face = 5 <;> by_cases h6 : face = 6 <;> by_cases h7 : face = 7 <;> simp_all
  · rw [hk]; refine (canMany _ face w').mono ?_; rintro x w2 ⟨rfl, rfl⟩; refine ⟨congrArg (fun b => Ending.returned (.bool b)) ?_, rfl⟩; unfold hasE; by_cases h0 : face = 0 <;> by_cases h1 : face = 1 <;> by_cases h2 : face = 2 <;> by_cases h3 : face = 3 <;> by_cases h4 : face = 4 <;> by_cases h5 : face = 5 <;> by_cases h6 : face = 6 <;> by_cases h7 : face = 7 <;> simp_all
  · rw [hk]; refine (canHold _ face w').mono ?_; rintro x w2 ⟨rfl, rfl⟩; refine ⟨congrArg (fun b => Ending.returned (.bool b)) ?_, rfl⟩; unfold hasE; by_cases h0 : face = 0 <;> by_cases h1 : face = 1 <;> by_cases h2 : face = 2 <;> by_cases h3 : face = 3 <;> by_cases h4 : face = 4 <;> by_cases h5 : face = 5 <;> by_cases h6 : face = 6 <;> by_cases h7 : face = 7 <;> simp_all
  · rw [hk]; refine (canList _ face w').mono ?_; rintro x w2 ⟨rfl, rfl⟩; refine ⟨congrArg (fun b => Ending.returned (.bool b)) ?_, rfl⟩; unfold hasE; by_cases h0 : face = 0 <;> by_cases h1 : face = 1 <;> by_cases h2 : face = 2 <;> by_cases h3 : face = 3 <;> by_cases h4 : face = 4 <;> by_cases h5 : face = 5 <;> by_cases h6 : face = 6 <;> by_cases h7 : face = 7 <;> simp_all
  · rw [hk]; refine (canPtr _ face w').mono ?_; rintro x w2 ⟨rfl, rfl⟩; refine ⟨congrArg (fun b => Ending.returned (.bool b)) ?_, rfl⟩; unfold hasE; by_cases h0 : face = 0 <;> by_cases h1 : face = 1 <;> by_cases h2 : face = 2 <;> by_cases h3 : face = 3 <;> by_cases h4 : face = 4 <;> by_cases h5 : face = 5 <;> by_cases h6 : face = 6 <;> by_cases h7 : face = 7 <;> simp_all
  · rw [hk]; refine (canLike _ face w').mono ?_; rintro x w2 ⟨rfl, rfl⟩; refine ⟨congrArg (fun b => Ending.returned (.bool b)) ?_, rfl⟩; unfold hasE; by_cases h0 : face = 0 <;> by_cases h1 : face = 1 <;> by_cases h2 : face = 2 <;> by_cases h3 : face = 3 <;> by_cases h4 : face = 4 <;> by_cases h5 : face = 5 <;> by_cases h6 : face = 6 <;> by_cases h7 : face = 7 <;> simp_all
  · rw [hk]; refine (canAs _ face w').mono ?_; rintro x w2 ⟨rfl, rfl⟩; refine ⟨congrArg (fun b => Ending.returned (.bool b)) ?_, rfl⟩; unfold hasE; by_cases h0 : face = 0 <;> by_cases h1 : face = 1 <;> by_cases h2 : face = 2 <;> by_cases h3 : face = 3 <;> by_cases h4 : face = 4 <;> by_cases h5 : face = 5 <;> by_cases h6 : face = 6 <;> by_cases h7 : face = 7 <;> simp_all
  · rw [hk]; refine (canTime _ face w').mono ?_; rintro x w2 ⟨rfl, rfl⟩; refine ⟨congrArg (fun b => Ending.returned (.bool b)) ?_, rfl⟩; unfold hasE; by_cases h0 : face = 0 <;> by_cases h1 : face = 1 <;> by_cases h2 : face = 2 <;> by_cases h3 : face = 3 <;> by_cases h4 : face = 4 <;> by_cases h5 : face = 5 <;> by_cases h6 : face = 6 <;> by_cases h7 : face = 7 <;> simp_all
  · refine (canNil face w').mono ?_; rintro x w2 ⟨rfl, rfl⟩; refine ⟨congrArg (fun b => Ending.returned (.bool b)) ?_, rfl⟩; have h0 : e.k ≠ 1 ∧ e.k ≠ 3 ∧ e.k ≠ 4 ∧ e.k ≠ 8 ∧ e.k ≠ 9 ∧ e.k ≠ 10 := by rcases hk with h | h <;> (try unfold E.okK at h) <;> omega
    obtain ⟨a1, a3, a4, a8, a9, a10⟩ := h0
    simp [hasE, a1, a3, a4, a8, a9, a10]
end Go.Proofs.YtbhmeapnmpgggaaGreatDoor
