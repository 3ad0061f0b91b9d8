/- ErrsUnwraps: of any error, the statement's function answers true, and its arguments read behind the call as they read before. No condition but what the row lists (errCompare as the program's text lays it). -/
import Derived.Test.YtbhmeapnmpgggaaGreatDoorCards
import Derived.Test.YtbhmeapnmpgggaaGreatDoorTie
import Derived.Test.YtbhmeapnmpgggaaGreatDoorFrame
import Derived.Test.YtbhmeapnmpgggaaGreatDoorErrsUnwrapsW
import Derived.ProofKit
import Derived.SizedLaws
namespace Go.Proofs.YtbhmeapnmpgggaaGreatDoor.errsUnwraps
open Go.RowKit Go.ChangeShapes Go.WideShapes

theorem own : ownKnob Tryz.prog.godebug = none := by kernel_rfl
theorem errG : Tryz.prog.globalNamed "conduit/errs.errCompare" = some 0 := by kernel_rfl
theorem errT : (Tryz.prog.globals[0]?).map (·.type) = some 68 := by kernel_rfl
theorem cellsES : Tryz.prog.cellsOf 298 = 1 := by kernel_rfl
theorem cellsS : Tryz.prog.cellsOf 9 = 1 := by kernel_rfl
theorem star : "*" ++ "errors.errorString" = "*errors.errorString" := by decide
theorem rowES (u : TypeId) (h : Tryz.prog.typeName? 3 u = some "*errors.errorString") : u = 296 :=
  typeName_ptr_named (nm := "errors.errorString") (by rw [star]; kernel_rfl) (by kernel_rfl) (by decide) u (by rw [star]; exact h)

theorem sen_of_laid {W : World} {r : List (String × DataW Unit)} (h : laidMet Tryz.prog (("conduit/errs.errCompare", Rows.laid_conduit_errs_errCompare) :: r) W) : ∃ u, Sen u W := by
  obtain ⟨a, s, hv, _⟩ := laid_sentinel h errG errT Tryz.underlying68 rowES Tryz.underlying296 Tryz.underlying298 rfl rfl Tryz.underlying9 cellsES cellsS
  refine ⟨a, ?_⟩
  unfold Sen errV
  simpa using World.var?_cell errG hv 0

/-! the witness -/
noncomputable def low : Nat := (World.holding Tryz.prog default ⟨#[], #[], []⟩).heap.size
noncomputable def laidWorld (os : Os) : World :=
  let w0 := World.holding Tryz.prog os ⟨#[.cells #[.string ⟨#[99, 111, 109, 112, 97, 114, 101]⟩] 298], #[], []⟩
  { w0 with heap := w0.heap.modify 0 fun
      | .cells _ t frozen => .cells #[.iface 296 (.pointer (some ⟨low, 0, none⟩))] t frozen
      | o => o }
theorem laid_met (os : Os) (args : Array Value) : laidMet Tryz.prog Rows.errsUnwrapsRow.laid ((laidWorld os).forCall (fun _ _ => 0) ⟨#[], args, []⟩).memory :=
  laidMet_of_run (ps := [.cell 0 0, .cell low 0]) 8 (by kernel_rfl) (by kernel_rfl) (by kernel_rfl)
noncomputable def wargs : Array Value := #[.agg #[.int .i64 0, .int .i64 0, .int .i64 0, .string ⟨#[]⟩, .int .i64 0, .int .i64 0, .int .u64 0, .string ⟨#[]⟩, .slice none 0 0, .slice none 0 0, .slice none 0 0]]
theorem witness_row (os : Os) {H : Type} (enc : TypeId × Value → H) :
    (OpenSpec.ofChange Rows.errsUnwrapsSpec).preRow enc Tryz.prog Tryz.f6 [] false Rows.errsUnwrapsRow.laid ((laidWorld os).forCall (fun _ _ => 0) ⟨#[], wargs, []⟩).memory wargs := by
  have hw : (DataW.whole enc Tryz.prog ((laidWorld os).forCall (fun _ _ => 0) ⟨#[], wargs, []⟩).memory Tryz.f6.params.toList (OpenSpec.ofChange Rows.errsUnwrapsSpec).vars false wargs.toList 8).map (fun x => (x.1, x.2.1)) =
      some ([.agg [.lit (.int .i64 0), .lit (.int .i64 0), .lit (.int .i64 0), .lit (.string []), .agg [.lit (.int .i64 0), .lit (.int .i64 0), .lit (.int .u64 0), .lit (.string []), .nil], .nil, .nil]], []) := by kernel_rfl
  obtain ⟨⟨x1, x2, x3⟩, hx, hx1⟩ := Option.map_eq_some_iff.1 hw
  simp only [Prod.mk.injEq] at hx1
  obtain ⟨rfl, rfl⟩ := hx1
  exact OpenSpec.preRow_of_cond 8 hx (by kernel_rfl) (fun k hk => by cases hk) (by kernel_rfl) (laid_met os _)

theorem fnParams : Tryz.f6.params = #[29] := by kernel_rfl

set_option maxRecDepth 100000 in
set_option maxHeartbeats 2000000 in
theorem lifted (os : Os) (started : os.Started) (H : Type) (enc : TypeId × Value → H) (F : Stop.Interp) :
    ReturnsInHanded {} Tryz.checked os 6 .any ((OpenSpec.ofChange Rows.errsUnwrapsSpec).preRow enc Tryz.prog Tryz.f6 [] false Rows.errsUnwrapsRow.laid) (((OpenSpec.ofChange Rows.errsUnwrapsSpec).at F).post enc Tryz.prog Tryz.f6 false true false false) := by
  refine law_lifted Tryz.func6 (by kernel_rfl) (by kernel_rfl) (fun t ht => by rw [fnParams] at ht; simp at ht; subst ht; exact of_decide_eq_true (by kernel_rfl)) rfl ?_ ?_ own os started H enc F
    (witness_row_atRef (enc := enc) (C := Tryz.checked) false (laidWorld os) wargs rfl (by kernel_rfl) (by kernel_rfl) (by kernel_rfl) (witness_row os enc))
  · intro H ds hl
    rw [fnParams] at hl
    match ds, hl with
    | [_], _ => rfl
  · intro H enc W args ds p base hval hA hwt hL
    rw [fnParams] at hval hA hwt
    obtain ⟨u, hu⟩ := sen_of_laid hL
    obtain ⟨v0, vs0, d0, ds0, p0, q0, e0, rfl, h0, hA0⟩ := trodAll_hd hA
    obtain ⟨rfl, rfl⟩ := trodAll_end hA0
    obtain rfl : args = #[v0] := by cases args; simp at e0; rw [e0]
    obtain ⟨d, rfl, hd⟩ := arg_E h0 (sized_hd hwt).1
    exact law u d W hd hu

theorem errsUnwraps_said : Rows.ErrsUnwrapsSaid :=
  OpenClaim.holds_of_cond 6 Tryz.f6 rfl rfl rfl rfl rfl rfl rfl ⟨rfl, rfl, rfl, rfl, rfl⟩ rfl rfl rfl rfl rfl (by kernel_rfl) Tryz.func6 (by kernel_rfl)
    (of_decide_eq_true (by kernel_rfl)) (by unfold Func.isWrapper; rw [if_neg (of_decide_eq_false (by kernel_rfl))]; exact ⟨rfl, rfl⟩)
    (fun os started H enc _ F0 => by rw [OpenClaim.pre_eq_preRow]; exact lifted os started H enc F0)

end Go.Proofs.YtbhmeapnmpgggaaGreatDoor.errsUnwraps
namespace Go.Proofs.YtbhmeapnmpgggaaGreatDoor
open errsUnwraps
theorem errsUnwraps_holds : Rows.ErrsUnwrapsCardSaid :=
  Claim7.holds_tied_plain_at .later [] [.sentinel] true (true, "870c8abd96a762519c1d327cfce6e4a2fefaa14a5b7c6c09ea5b413bff8bbe8f") true
    errsUnwraps_said (fun _ h => by cases h) (by kernel_rfl) (fun _ h => by cases h) errsUnwraps_row_tie rfl ⟨rfl, rfl⟩ (by kernel_rfl) rfl
    (fun f fn hf hfn => by
      obtain rfl : f = 6 := Option.some.inj ((show Tryz.prog.funcNamed "conduit/conduitlaw35.ErrsUnwraps" = some 6 by kernel_rfl).symm.trans hf) |>.symm
      obtain rfl : fn = Tryz.f6 := (Option.some.inj (Tryz.func6.symm.trans hfn)).symm
      exact ⟨by kernel_rfl, fun j t ht => by
        rw [fnParams] at ht
        have h3 : t = 29 := by
          rcases j with _ | j
          · simpa using ht.symm
          · simp at ht
        subst h3
        exact (show Tryz.prog.wantsStandIn 29 = false by kernel_rfl)⟩)
    (by kernel_rfl)
#print axioms errsUnwraps_holds
end Go.Proofs.YtbhmeapnmpgggaaGreatDoor
