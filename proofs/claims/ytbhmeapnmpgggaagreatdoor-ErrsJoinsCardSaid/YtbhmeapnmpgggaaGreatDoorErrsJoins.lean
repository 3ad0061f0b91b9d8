/- ErrsJoins: of any errors, any number, the statement's function answers true, and its arguments read behind the call as they read before. No condition but what the row lists (errCompare as the program's text lays it). -/
import Derived.Test.YtbhmeapnmpgggaaGreatDoorCards
import Derived.Test.YtbhmeapnmpgggaaGreatDoorTie
import Derived.Test.YtbhmeapnmpgggaaGreatDoorFrame
import Derived.Test.YtbhmeapnmpgggaaGreatDoorErrsJoinsW
import Derived.ProofKit
import Derived.SizedLaws
namespace Go.Proofs.YtbhmeapnmpgggaaGreatDoor.errsJoins
open Go.RowKit Go.ChangeShapes Go.WideShapes

theorem own : ownKnob Tryz.prog.godebug = none := by kernel_rfl
theorem errG : Tryz.prog.globalNamed "conduit/errs.errCompare" = some 0 := by kernel_rfl
theorem errT : (Tryz.prog.globals[0]?).map (·.type) = some 68 := by kernel_rfl
theorem cellsES : Tryz.prog.cellsOf 298 = 1 := by kernel_rfl
theorem cellsS : Tryz.prog.cellsOf 9 = 1 := by kernel_rfl
theorem star : "*" ++ "errors.errorString" = "*errors.errorString" := by decide
theorem rowES (u : TypeId) (h : Tryz.prog.typeName? 3 u = some "*errors.errorString") : u = 296 :=
  typeName_ptr_named (nm := "errors.errorString") (by rw [star]; kernel_rfl) (by kernel_rfl) (by decide) u (by rw [star]; exact h)

theorem sen_of_laid {W : World} {r : List (String × DataW Unit)} (h : laidMet Tryz.prog (("conduit/errs.errCompare", Rows.laid_conduit_errs_errCompare) :: r) W) : ∃ u, Sen u W := by
  obtain ⟨a, s, hv, _⟩ := laid_sentinel h errG errT Tryz.underlying68 rowES Tryz.underlying296 Tryz.underlying298 rfl rfl Tryz.underlying9 cellsES cellsS
  refine ⟨a, ?_⟩
  unfold Sen errV
  simpa using World.var?_cell errG hv 0

/-! the witness -/
noncomputable def low : Nat := (World.holding Tryz.prog default ⟨#[], #[], []⟩).heap.size
noncomputable def laidWorld (os : Os) : World :=
  let w0 := World.holding Tryz.prog os ⟨#[.cells #[.string ⟨#[99, 111, 109, 112, 97, 114, 101]⟩] 298], #[], []⟩
  { w0 with heap := w0.heap.modify 0 fun
      | .cells _ t frozen => .cells #[.iface 296 (.pointer (some ⟨low, 0, none⟩))] t frozen
      | o => o }
theorem laid_met (os : Os) (args : Array Value) : laidMet Tryz.prog Rows.errsJoinsRow.laid ((laidWorld os).forCall (fun _ _ => 0) ⟨#[], args, []⟩).memory :=
  laidMet_of_run (ps := [.cell 0 0, .cell low 0]) 8 (by kernel_rfl) (by kernel_rfl) (by kernel_rfl)
noncomputable def wargs : Array Value := #[.slice none 0 0, .int .i64 0, .agg #[.int .i64 0, .int .i64 0, .int .i64 0, .string ⟨#[]⟩, .int .i64 0, .int .i64 0, .int .u64 0, .string ⟨#[]⟩, .slice none 0 0, .slice none 0 0, .slice none 0 0]]
theorem witness_row (os : Os) {H : Type} (enc : TypeId × Value → H) :
    (OpenSpec.ofChange Rows.errsJoinsSpec).preRow enc Tryz.prog Tryz.f5 [] false Rows.errsJoinsRow.laid ((laidWorld os).forCall (fun _ _ => 0) ⟨#[], wargs, []⟩).memory wargs := by
  have hw : (DataW.whole enc Tryz.prog ((laidWorld os).forCall (fun _ _ => 0) ⟨#[], wargs, []⟩).memory Tryz.f5.params.toList (OpenSpec.ofChange Rows.errsJoinsSpec).vars false wargs.toList 8).map (fun x => (x.1, x.2.1)) =
      some ([.nil, .lit (.int .i64 0), .agg [.lit (.int .i64 0), .lit (.int .i64 0), .lit (.int .i64 0), .lit (.string []), .agg [.lit (.int .i64 0), .lit (.int .i64 0), .lit (.int .u64 0), .lit (.string []), .nil], .nil, .nil]], []) := by kernel_rfl
  obtain ⟨⟨x1, x2, x3⟩, hx, hx1⟩ := Option.map_eq_some_iff.1 hw
  simp only [Prod.mk.injEq] at hx1
  obtain ⟨rfl, rfl⟩ := hx1
  exact OpenSpec.preRow_of_cond 8 hx (by kernel_rfl) (fun k hk => by cases hk) (by kernel_rfl) (laid_met os _)

theorem arg_EL {H : Type} {enc : TypeId × Value → H} {W : World} {sp : Nat → Bool} {held : Bool} {v : Value} {x : DataW H} {p : List MemPlace} (h : DataW.Trod enc Tryz.prog W 0 sp held 27 v x p) (hs : Sized Tryz.prog 27 x) (hv : ∃ A n c, v = .slice A n c) :
    ∃ (A : Option Addr) (l : List E) (c : Nat), v = .slice A l.length c ∧ E.InL W A 0 l ∧ l.length ≤ c ∧ c ≤ 9223372036854775807 := by
  obtain ⟨n, hn⟩ := h
  obtain ⟨A0, n0, c0, rfl⟩ := hv
  rcases DataW.trod_slice Tryz.underlying27 hn with ⟨e6, _⟩ | ⟨a, len, cap, elems, rest, m, hm, e6, ex6, hb, hl, hc, hlen, hel, _⟩
  · simp [Value.cells] at e6
    obtain ⟨rfl, rfl, rfl⟩ := e6
    exact ⟨none, [], 0, rfl, trivial, by simp, by simp⟩
  · simp [Value.cells] at e6
    obtain ⟨rfl, rfl, rfl⟩ := e6
    unfold maxLen at hc
    simp only [Prod.mk.injEq] at ex6
    have hsa : ∀ n, n ∈ DataW.weightsAll Tryz.prog 29 (elems.map (·.1)) → n ≤ reachBytes := fun n hn => hs n (by
      rw [ex6.1]
      unfold DataW.weights
      rw [Tryz.underlying27]
      exact List.mem_cons_of_mem _ (List.mem_append_left _ hn))
    have key : ∀ j, j < n0 → ∃ d : E, At W (a.add (j * 11)) d.cs ∧ d.In W := by
      intro j hj
      have := hel j hj
      rw [cellsE, List.getElem?_eq_getElem (by omega)] at this
      obtain ⟨cs', hc', ht⟩ := Option.bind_eq_some_iff.1 this
      obtain ⟨d, rfl, hd⟩ := open_E m _ _ ht (sized_all (i := j) hsa (by rw [List.getElem?_map, List.getElem?_eq_getElem (by omega)]; rfl))
      exact ⟨d, At.of_cells hc', hd⟩
    obtain ⟨l, hll, hl'⟩ := list_of_fn n0 key
    subst hll
    exact ⟨some a, l, c0, rfl, E.InL.mk_ fun j d hd => ⟨⟨a, rfl, by rw [Nat.zero_add]; exact (hl' j d hd).1⟩, (hl' j d hd).2⟩, hl, hc⟩

theorem fnParams : Tryz.f5.params = #[27, 2, 29] := by kernel_rfl

set_option maxRecDepth 100000 in
set_option maxHeartbeats 2000000 in
theorem lifted (os : Os) (started : os.Started) (H : Type) (enc : TypeId × Value → H) (F : Stop.Interp) :
    ReturnsInHanded {} Tryz.checked os 5 .any ((OpenSpec.ofChange Rows.errsJoinsSpec).preRow enc Tryz.prog Tryz.f5 [] false Rows.errsJoinsRow.laid) (((OpenSpec.ofChange Rows.errsJoinsSpec).at F).post enc Tryz.prog Tryz.f5 false true false false) := by
  refine law_lifted Tryz.func5 (by kernel_rfl) (by kernel_rfl) (fun t ht => by rw [fnParams] at ht; simp at ht; rcases ht with rfl | rfl | rfl <;> exact of_decide_eq_true (by kernel_rfl)) rfl ?_ ?_ own os started H enc F
    (witness_row_atRef (enc := enc) (C := Tryz.checked) false (laidWorld os) wargs rfl (by kernel_rfl) (by kernel_rfl) (by kernel_rfl) (witness_row os enc))
  · intro H ds hl
    rw [fnParams] at hl
    match ds, hl with
    | [_, _, _], _ => rfl
  · intro H enc W args ds p base hval hA hwt hL
    rw [fnParams] at hval hA hwt
    obtain ⟨u, hu⟩ := sen_of_laid hL
    obtain ⟨v0, vs0, d0, ds0, p0, q0, e0, rfl, h0, hA0⟩ := trodAll_hd hA
    obtain ⟨v1, vs1, d1, ds1, p1, q1, rfl, rfl, h1, hA1⟩ := trodAll_hd hA0
    obtain ⟨v2, vs2, d2, ds2, p2, q2, rfl, rfl, h2, hA2⟩ := trodAll_hd hA1
    obtain ⟨rfl, rfl⟩ := trodAll_end hA2
    obtain rfl : args = #[v0, v1, v2] := by cases args; simp at e0; rw [e0]
    obtain ⟨A, l, c, rfl, hl, hc⟩ := arg_EL h0 (sized_hd hwt).1 (okWide_slice Tryz.underlying27 (hval 0 27 v0 rfl rfl))
    obtain ⟨id, rfl, _, _, hid⟩ := open_int Tryz.underlying2 (hval 1 2 v1 rfl rfl) h1
    obtain ⟨t, rfl, ht⟩ := arg_E h2 (sized_hd (sized_hd (sized_hd hwt).2).2).1
    exact law u l A c id t W hl hc (wf_i64 hid) ht hu

theorem errsJoins_said : Rows.ErrsJoinsSaid :=
  OpenClaim.holds_of_cond 5 Tryz.f5 rfl rfl rfl rfl rfl rfl rfl ⟨rfl, rfl, rfl, rfl, rfl⟩ rfl rfl rfl rfl rfl (by kernel_rfl) Tryz.func5 (by kernel_rfl)
    (of_decide_eq_true (by kernel_rfl)) (by unfold Func.isWrapper; rw [if_neg (of_decide_eq_false (by kernel_rfl))]; exact ⟨rfl, rfl⟩)
    (fun os started H enc _ F0 => by rw [OpenClaim.pre_eq_preRow]; exact lifted os started H enc F0)

end Go.Proofs.YtbhmeapnmpgggaaGreatDoor.errsJoins
namespace Go.Proofs.YtbhmeapnmpgggaaGreatDoor
open errsJoins
theorem errsJoins_holds : Rows.ErrsJoinsCardSaid :=
  Claim7.holds_tied_plain_at .later [] [.sentinel] true (true, "870c8abd96a762519c1d327cfce6e4a2fefaa14a5b7c6c09ea5b413bff8bbe8f") true
    errsJoins_said (fun _ h => by cases h) (by kernel_rfl) (fun _ h => by cases h) errsJoins_row_tie rfl ⟨rfl, rfl⟩ (by kernel_rfl) rfl
    (fun f fn hf hfn => by
      obtain rfl : f = 5 := Option.some.inj ((show Tryz.prog.funcNamed "conduit/conduitlaw35.ErrsJoins" = some 5 by kernel_rfl).symm.trans hf) |>.symm
      obtain rfl : fn = Tryz.f5 := (Option.some.inj (Tryz.func5.symm.trans hfn)).symm
      exact ⟨by kernel_rfl, fun j t ht => by
        rw [fnParams] at ht
        have h3 : t = 27 ∨ t = 2 ∨ t = 29 := by
          rcases j with _ | _ | _ | j
          · left; simpa using ht.symm
          · right; left; simpa using ht.symm
          · right; right; simpa using ht.symm
          · simp at ht
        rcases h3 with rfl | rfl | rfl
        · exact (show Tryz.prog.wantsStandIn 27 = false by kernel_rfl)
        · exact (show Tryz.prog.wantsStandIn 2 = false by kernel_rfl)
        · exact (show Tryz.prog.wantsStandIn 29 = false by kernel_rfl)⟩)
    (by kernel_rfl)
#print axioms errsJoins_holds
end Go.Proofs.YtbhmeapnmpgggaaGreatDoor
