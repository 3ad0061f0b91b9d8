/- The wrap of a law that answers true and leaves all that was as it was: what is read behind the call. No condition. -/
import Derived.Test.YtbhmeapnmpgggaaGreatDoorRows
import Derived.Test.YtbhmeapnmpgggaaGreatDoorOpen
import Derived.Test.YtbhmeapnmpgggaaGreatDoorMade
import Derived.Below
import Derived.ChangeSame
import Derived.ChangeStays
import Derived.ReadAgain
import Derived.ChangeCalls
import Derived.OpenShut
import Derived.Deep.DeepHandedRow
import Derived.Deep.DeepWitnessRowRef
import Derived.Stop.LaidErr
import Derived.Lib.LaidIn
namespace Go.Proofs.YtbhmeapnmpgggaaGreatDoor
open Go.RowKit Go.ChangeShapes Go.WideShapes

theorem laidOut : laidOutB Tryz.prog = true := by kernel_rfl
theorem mapsRow : mapsRowed Tryz.prog = true := by kernel_rfl
theorem kids : Kids Tryz.prog (fun t => t < Tryz.prog.types.size) := kids_rows laidOut mapsRow
theorem slicesFull : ∀ t e, t < Tryz.prog.types.size → Tryz.prog.underlying t = some (.slice e) → 0 < Tryz.prog.cellsOf e := slices_full_of Tryz.prog (by kernel_rfl)
theorem hsz0 : ∀ {t e : TypeId}, t < Tryz.prog.types.size → Tryz.prog.underlying t = some (.slice e) → 0 < Tryz.prog.cellsOf e := fun {t e} h1 h2 => slicesFull t e h1 h2
section
variable {H : Type} {enc : TypeId × Value → H}
theorem sameAt_below {W W' : World} (hb : Below W.heap.size W W') (p : MemPlace) (hp : p.block < W.heap.size) : W.sameAt W' p := by
  cases p with
  | cell b o => exact hb.cell hp
  | map b => exact hb.block b hp
theorem args_stay {W W' : World} (hb : Below W.heap.size W W') {sp : Nat → Bool} : ∀ {ts : List TypeId} {vs : List Value} {ds : List (DataW H)} {ps : List MemPlace}, (∀ t ∈ ts, t < Tryz.prog.types.size) →
    DataW.TrodAll enc Tryz.prog W 0 (fun _ => true) true ts vs ds ps → (∀ p ∈ ps, p.block < W.heap.size) → (∀ p ∈ ps, sp p.block = true) → DataW.TrodAll enc Tryz.prog W' 0 sp true ts vs ds ps
  | [], [], [], _, _, h, _, _ => h
  | t :: ts, v :: vs, d :: ds, ps, ht, h, hl, hs => by
    obtain ⟨p, q, h1, h2, rfl⟩ := h
    refine ⟨p, q, ?_, args_stay hb (fun t h => ht t (List.mem_cons_of_mem _ h)) h2 (fun p h => hl p (List.mem_append_right _ h)) (fun p h => hs p (List.mem_append_right _ h)), rfl⟩
    obtain ⟨n, hn⟩ := h1
    have hT := ht t (List.mem_cons_self ..)
    exact ⟨n, DataW.trod_stays (T := fun t => t < Tryz.prog.types.size) kids hsz0 (fun h => by cases h) hT hn (fun p h => sameAt_below hb p (hl p (List.mem_append_left _ h))) (fun p h => hs p (List.mem_append_left _ h))⟩
  | [], _ :: _, _, _, _, h, _, _ => h.elim
  | [], [], _ :: _, _, _, h, _, _ => h.elim
  | _ :: _, [], _, _, _, h, _, _ => h.elim
  | _ :: _, _ :: _, [], _, _, h, _, _ => h.elim

theorem arg_E {W : World} {sp : Nat → Bool} {held : Bool} {v : Value} {x : DataW H} {p : List MemPlace} (h : DataW.Trod enc Tryz.prog W 0 sp held 29 v x p) (hs : Sized Tryz.prog 29 x) : ∃ d : E, v = d.v ∧ d.In W := by
  obtain ⟨n, hn⟩ := h
  obtain ⟨d, hd, hin⟩ := open_E n _ _ hn hs
  refine ⟨d, ?_, hin⟩
  unfold E.v
  cases v with
  | agg cs =>
    have : cs.toList = d.cs := hd
    rw [← this]
  | _ => exact absurd (congrArg List.length hd) (by simp [Value.cells, E.cs])
theorem arg_D {W : World} {sp : Nat → Bool} {held : Bool} {v : Value} {x : DataW H} {p : List MemPlace} (h : DataW.Trod enc Tryz.prog W 0 sp held 25 v x p) : ∃ d : D, v = d.v ∧ d.In W := by
  obtain ⟨n, hn⟩ := h
  obtain ⟨d, hd, hin⟩ := open_D n _ _ hn
  refine ⟨d, ?_, hin⟩
  unfold D.v
  cases v with
  | agg cs =>
    have : cs.toList = d.cs := hd
    rw [← this]
  | _ => exact absurd (congrArg List.length hd) (by simp [Value.cells, D.cs])
theorem sized_hd {t : TypeId} {ts : List TypeId} {d : DataW H} {ds : List (DataW H)} (h : (DataW.weightsEach Tryz.prog (t :: ts) (d :: ds)).all (· ≤ reachBytes) = true) : Sized Tryz.prog t d ∧ (DataW.weightsEach Tryz.prog ts ds).all (· ≤ reachBytes) = true := by
  unfold DataW.weightsEach at h
  rw [List.all_append, Bool.and_eq_true] at h
  refine ⟨fun n hn => by simpa using List.all_eq_true.1 h.1 n hn, h.2⟩
theorem trodAll_hd {W : World} {sp : Nat → Bool} {held : Bool} {t : TypeId} {ts : List TypeId} {vs : List Value} {ds : List (DataW H)} {p : List MemPlace} (h : DataW.TrodAll enc Tryz.prog W 0 sp held (t :: ts) vs ds p) :
    ∃ v vs' d ds' p1 p2, vs = v :: vs' ∧ ds = d :: ds' ∧ DataW.Trod enc Tryz.prog W 0 sp held t v d p1 ∧ DataW.TrodAll enc Tryz.prog W 0 sp held ts vs' ds' p2 := by
  match vs, ds, h with
  | v :: vs', d :: ds', ⟨p1, p2, h1, h2, _⟩ => exact ⟨v, vs', d, ds', p1, p2, rfl, rfl, h1, h2⟩
theorem trodAll_end {W : World} {sp : Nat → Bool} {held : Bool} {vs : List Value} {ds : List (DataW H)} {p : List MemPlace} (h : DataW.TrodAll enc Tryz.prog W 0 sp held [] vs ds p) : vs = [] ∧ ds = [] := by
  match vs, ds, h with
  | [], [], _ => exact ⟨rfl, rfl⟩

set_option maxRecDepth 100000 in
theorem law_lifted {f : FuncId} {fn : Func} {s : ChangeSpec} {laid : List (String × DataW Unit)} (hfn : Tryz.prog.funcs[f]? = some fn) (hni : Tryz.prog.inits.idxOf? f = none) (hrt : fn.resultTypes = #[4]) (hts : ∀ t ∈ fn.params.toList, t < Tryz.prog.types.size)
    (hsv : s.vars = []) (hsp : ∀ (H : Type) (ds : List (DataW H)), ds.length = fn.params.toList.length → s.fn H ds = { results := [.lit (.bool true)], args := ds })
    (law : ∀ (H : Type) (enc : TypeId × Value → H) (W : World) (args : Array Value) (ds : List (DataW H)) (p : List MemPlace) (base : Nat), (∀ (j : Nat) t v, fn.params[j]? = some t → args[j]? = some v → Value.okWide Tryz.prog W .any base t v) →
      DataW.TrodAll enc Tryz.prog W 0 (fun _ => true) true fn.params.toList args.toList ds p → (DataW.weightsEach Tryz.prog fn.params.toList ds).all (· ≤ reachBytes) = true → laidMetH Tryz.prog laid W → Calls Tryz.prog f args W (Ret (.bool true) W))
    (own : ownKnob Tryz.prog.godebug = none) (os : Os) (started : os.Started) (H : Type) (enc : TypeId × Value → H) (F : Stop.Interp)
    (witness : ∃ (w : World) (tape : Tape) (i : Input), w.os = os ∧ (w.forCall tape i).Shaped Tryz.checked.prog ∧ i.vars = [] ∧ Input.okWide Tryz.checked.prog (w.forCall tape i) .any w.heap.size f i ∧
      (OpenSpec.ofChange s).preRow enc Tryz.checked.prog fn [] false laid (w.forCall tape i).memory i.args ∧ ({} : Assume).holds Tryz.checked.prog (lone (Frame.enter Tryz.checked.prog f i.args .normal) [] (w.forCall tape i))) :
    ReturnsInHanded {} Tryz.checked os f .any ((OpenSpec.ofChange s).preRow enc Tryz.prog fn [] false laid) (((OpenSpec.ofChange s).at F).post enc Tryz.prog fn false true false false) := by
  refine returnsInHanded_of_row (C := Tryz.checked) (s := OpenSpec.ofChange s) own started hni hfn witness ?_
  intro W base args ds gs before hval hW _ _ hwt hL _ _
  have hW' := hW
  obtain ⟨p, q, hA0, hV0, rfl, _, _⟩ := hW
  have hA : DataW.TrodAll enc Tryz.prog W 0 (fun _ => true) true fn.params.toList args.toList ds p := hA0
  have hV : DataW.TrodVars enc Tryz.prog W (fun _ => true) s.vars gs q := hV0
  rw [hsv] at hV
  obtain ⟨rfl, rfl⟩ := trodVars_none hV
  have hwt' : (DataW.weightsEach Tryz.prog fn.params.toList ds).all (· ≤ reachBytes) = true := by
    have h2 : (DataW.weightsEach Tryz.prog (fn.params.toList ++ s.plain.varTypes Tryz.prog) (ds ++ [])).all (· ≤ reachBytes) = true := hwt
    have h3 : s.plain.varTypes Tryz.prog = [] := by unfold ChangeSpec.plain; simp [DataSpec.varTypes, hsv]
    rwa [h3, List.append_nil, List.append_nil] at h2
  have hlen : ds.length = fn.params.toList.length := (trodAll_length hA).2
  refine (law H enc W args ds p base hval hA hwt' hL).mono ?_
  rintro e W' ⟨rfl, bel⟩
  have e1 : ((OpenSpec.ofChange s).at F).fn H (ds ++ []) = { results := [.lit (.bool true)], args := ds } := by rw [List.append_nil]; exact hsp H ds hlen
  have hlt : ∀ x ∈ p, x.block < W.heap.size := fun x hx => hA.lt x hx
  refine ⟨_, rfl, ds, [], p ++ [], [], p, [], hW', ?_, ?_, ?_, bel.frame _, fun h => by cases h⟩
  · rw [e1, hrt]; exact trodAll_mk1 (shut_bool Tryz.underlying4 _)
  · rw [e1]; exact args_stay bel hts hA hlt (fun x hx => by simpa using hlt x hx)
  · rw [e1]
    show DataW.TrodVars enc _ _ _ s.vars _ _
    rw [hsv]
    rfl
end
end Go.Proofs.YtbhmeapnmpgggaaGreatDoor
